/- Part 7 of a proof about this seat: Kt3, Awake5, Fit5, Sh3, Sh4, Long, Ref4, Rfd, PanD, Dop, Hop, Trn, Rfu, Rf2. (Own work of this repo.) -/
import Derived.Test.YtnpomadbaanpkaaGreatZLinearHolds6
set_option linter.unusedVariables false
set_option linter.unusedSimpArgs false
/- Small runs of chapter 5. (Own work of this repo.) -/
namespace Go.Proofs.YtnpomadbaanpkaaGreat
open Vm
set_option maxRecDepth 1000000
theorem ki24 : denP E 28 [.lst false [.int .i64 2, .int .i64 4]] = some (.ret (.lst false [I false 2, I false 4])) := denP_ker 600 (by kernel_rfl)
theorem ki3 : denP E 28 [.lst false [.int .i64 3]] = some (.ret (.lst false [I false 3])) := denP_ker 600 (by kernel_rfl)
theorem ki1 : denP E 28 [.lst false [.int .i64 1]] = some (.ret (.lst false [I false 1])) := denP_ker 600 (by kernel_rfl)
theorem ki0 : denP E 28 [.lst false [.int .i64 0]] = some (.ret (.lst false [I false 0])) := denP_ker 600 (by kernel_rfl)
theorem ki35 : denP E 28 [.lst false [.int .i64 3, .int .i64 5]] = some (.ret (.lst false [I false 3, I false 5])) := denP_ker 600 (by kernel_rfl)
theorem ki21 : denP E 28 [.lst false [.int .i64 2, .int .i64 (-1)]] = some (.ret (.lst false [I false 2, I false (-1)])) := denP_ker 600 (by kernel_rfl)
theorem kref : denP E 9 [.lst false [.lst false [I false 2, I false 4]], .lst false [I false 3], .lst false [I false 1], I false 2] = some (.ret (.tup [.bool true, .int .i64 0])) := denP_ker 600 (by kernel_rfl)
theorem khol : denP E 8 [.lst false [.lst false [I false 3, I false 5]], .lst false [I false 1], .lst false [I false 2, I false (-1)]] = some (.ret (.tup [.bool true, .int .i64 0])) := denP_ker 600 (by kernel_rfl)
theorem ktim : denP E 15 [.lst false [.lst false [I false 3, I false 5]], .lst false [I false (-5), I false 3]] = some (.ret (.lst false [I true 0])) := denP_ker 600 (by kernel_rfl)
theorem ksam : denP E 25 [.lst false [I true 0], .lst false [I false 0]] = some (.ret (.bool true)) := denP_ker 600 (by kernel_rfl)
end Go.Proofs.YtnpomadbaanpkaaGreat

/- The examples of chapter 5 hold. (Own work of this repo.) -/
namespace Go.Proofs.YtnpomadbaanpkaaGreat
open Vm
set_option maxRecDepth 10000

theorem purify_I {n : Nat} {H : Heap} {f : Bool} {z : Int} : purify (n + 2) H (I f z) = some (I f z, []) := by
  simp only [purify_agg, mapL_cons, mapL_nil, purify_bool, purify_wd, List.append_nil]
set_option maxHeartbeats 4000000 in
theorem awake5 : denP E 7 [] = some (.ret (.bool true)) := by
  refine denP_eq E7 rfl rfl ?_
  have k1 := kt1
  have k2 := kt2
  have r1 := ki24
  have r2 := ki3
  have r3 := ki1
  have r4 := ki0
  have r5 := ki35
  have r6 := ki21
  have q1 := kref
  have q2 := khol
  have q3 := ktim
  have q4 := ksam
  have o2 := of_spec 2 (by decide) (by decide)
  have pl1 : ∀ (n : Nat) (H : Heap) (f : Bool) (x : Int), purify (n + 1) H (.lst false [I f x]) = some (.lst false [I f x], []) := fun n H f x => purify_lst (by simp [AV.pureL, AV.pure, pure_wd])
  have pl2 : ∀ (n : Nat) (H : Heap) (f g : Bool) (x y : Int), purify (n + 1) H (.lst false [I f x, I g y]) = some (.lst false [I f x, I g y], []) := fun n H f g x y => purify_lst (by simp [AV.pureL, AV.pure, pure_wd])
  simp (maxSteps := 4000000) only [go_sem, ↓reduceIte, Nat.reduceAdd, Nat.reduceSub, Nat.reduceMul, Nat.reduceEqDiff, reduceCtorEq, Int.reduceAdd, Int.reduceLT, Int.reduceLE, Int.reduceToNat, Int.reduceNeg, Int.reduceSub, ← List.map_take, ← List.map_drop, ne_eq, Nat.reduceLeDiff, Nat.reduceLT, Nat.zero_le, Nat.le_refl, wrap64, wrapu64, wrapu32, ← Int.natCast_add, ← Int.natCast_mul, cast_succ, wrapu32_nat, shr32, reps_wd, map_set_wd, List.length_set, zs_len, Tryz.f7, reps, places, fillAll, refP, elems, List.headD_cons, r1, r2, r3, r4, r5, r6, pl1, pl2, k1, k2, q1, q2, o2]
  refine W_drawn ?_
  simp (maxSteps := 4000000) only [go_sem, ↓reduceIte, Nat.reduceAdd, Nat.reduceSub, Nat.reduceMul, Nat.reduceEqDiff, reduceCtorEq, Int.reduceAdd, Int.reduceLT, Int.reduceLE, Int.reduceToNat, Int.reduceNeg, Int.reduceSub, ← List.map_take, ← List.map_drop, ne_eq, Nat.reduceLeDiff, Nat.reduceLT, Nat.zero_le, Nat.le_refl, wrap64, wrapu64, wrapu32, ← Int.natCast_add, ← Int.natCast_mul, cast_succ, wrapu32_nat, shr32, reps_wd, map_set_wd, List.length_set, zs_len, reps, places, fillAll, refP, elems, List.headD_cons, r4, r5, pl1, pl2, q3, q4, Int.reduceEq, if_pos]
  rfl
end Go.Proofs.YtnpomadbaanpkaaGreat

/- What lists are, as arguments. (Own work of this repo.) -/
namespace Go.Proofs.YtnpomadbaanpkaaGreat
open Vm
set_option maxRecDepth 10000

/-- A list out of parts that are each of a kind. -/
theorem list_of {α : Type} {f : α → AV} {P : α → Prop} : ∀ (xs : List AV), (∀ x ∈ xs, ∃ a, x = f a ∧ P a) → ∃ l : List α, xs = l.map f ∧ ∀ a ∈ l, P a
  | [], _ => ⟨[], rfl, by simp⟩
  | x :: xs, h => by
    obtain ⟨a, rfl, ha⟩ := h x (by simp)
    obtain ⟨l, rfl, hl⟩ := list_of xs fun y hy => h y (by simp [hy])
    exact ⟨a :: l, rfl, by simpa using ⟨ha, hl⟩⟩
theorem fit_list {m : Nat} {cs : List AV} {t : Nat} (ht : E.T t = some ⟨1, 24, false, .lst true [], .slice 26⟩) (h : Fit E (m + 4) t cs) : ∃ (nl : Bool) (L : List Raw), cs = [lraw nl L] ∧ Short L ∧ (∀ q ∈ L, InR q.2.2) ∧ (nl = true → L = []) := by
  rw [Fit, ht] at h
  obtain ⟨_, h⟩ := h
  simp only [FitD, opn_eq, T1, T2, T3, T4, T5, T6, T9, T10, T11, T12, T15, T16, T17, T20, T21, T22, T23, T24, T25, T26, T27, T28, T29, T31, T32, T33, T34, T35, T36, T37, T38, T39, T40, T41, T42, T43, T44, T46, T47, T49, T51, T52, T53, T54, T55, T56, T57, T58, T59, T60, T61, T62, T63, T64, T65, T66, T67, T68, T70, T72, T73, T74, T76, T77, T78, T79, T80, T82, T83, T84, T85, T86, T87, T88, T89, T90, T91, T92, T93, T94, T95, T97, T99, T100, T101, T103, T104, T106, T107, T108, T109, T110, T111, T112, T113, T114, T115, T116, T117, T118, T119, T121, T122, T123, T124, T125, T126, T128, T130, T131, T132, T134, T135, T136, T137, T138, T139, T140, T141, T144, T147, T148, T149, T150, T151, T152, T153] at h
  rcases h with rfl | ⟨xs, rfl, hl, hx⟩
  · exact ⟨true, [], rfl, ⟨by decide, by simp⟩, by simp, fun _ => rfl⟩
  · obtain ⟨L, rfl, hL⟩ := list_of (f := ivr) (P := fun q : Raw => InR q.2.2 ∧ q.2.2.length ≤ maxLen) xs fun x hx0 => by
      obtain ⟨cs, rfl, _, hf⟩ := hx x hx0
      obtain ⟨q, rfl, h1, _, h3⟩ := fit_raw (m := m) hf
      exact ⟨q, rfl, h1, h3⟩
    refine ⟨false, L, rfl, ⟨?_, fun q hq => ?_⟩, fun q hq => (hL q hq).1, by simp⟩
    · rw [List.length_map] at hl; unfold maxLen at hl; omega
    · have := (hL q hq).2; unfold maxLen at this; omega
theorem fit_mat {m : Nat} {cs : List AV} {t u : Nat} (hu : E.T u = some ⟨1, 24, false, .lst true [], .slice 26⟩) (ht : E.T t = some ⟨1, 24, false, .lst true [], .slice u⟩) (h : Fit E (m + 5) t cs) : ∃ (nl : Bool) (A : Mat), cs = [mraw nl A] ∧ ShortM A ∧ (∀ r ∈ A, ∀ q ∈ r.2, InR q.2.2) := by
  rw [Fit, ht] at h
  obtain ⟨_, h⟩ := h
  simp only [FitD, hu] at h
  rcases h with rfl | ⟨xs, rfl, hl, hx⟩
  · exact ⟨true, [], rfl, ⟨by decide, by simp⟩, by simp⟩
  · obtain ⟨L, rfl, hL⟩ := list_of (f := lr) (P := fun r : Bool × List Raw => Short r.2 ∧ ∀ q ∈ r.2, InR q.2.2) xs fun x hx0 => by
      obtain ⟨cs, rfl, _, hf⟩ := hx x hx0
      obtain ⟨nl, L, rfl, h1, h2, _⟩ := fit_list (m := m) hu hf
      exact ⟨(nl, L), rfl, h1, h2⟩
    refine ⟨false, L, rfl, ⟨?_, fun r hr => (hL r hr).1⟩, fun r hr => (hL r hr).2⟩
    rw [List.length_map] at hl; unfold maxLen at hl; omega
end Go.Proofs.YtnpomadbaanpkaaGreat

/- Walks: Shift. (Own work of this repo.) -/
namespace Go.Proofs.YtnpomadbaanpkaaGreat
open Vm
set_option maxRecDepth 10000

theorem floor_neg (y c : Nat) (hc : 0 < c) : (-(y : Int)) / (c : Int) = -((y / c + (if y % c = 0 then 0 else 1) : Nat) : Int) := by
  have h := Nat.div_add_mod y c
  have hm := Nat.mod_lt y hc
  generalize y / c = q at *
  generalize y % c = r at *
  have hy : (y : Int) = c * q + r := by rw [← h]; push_cast; rfl
  have hc' : (0 : Int) < c := by omega
  by_cases h0 : r = 0
  · rw [if_pos h0, hy, h0]
    rw [show -((c : Int) * q + ((0 : Nat) : Int)) = (c : Int) * (-(q : Int)) by rw [Int.mul_neg]; simp, Int.mul_ediv_cancel_left _ (by omega)]
    simp
  · rw [if_neg h0, hy]
    rw [show -((c : Int) * q + r) = (c - r) + (c : Int) * (-(q : Int) - 1) by rw [Int.mul_sub, Int.mul_neg]; omega, Int.add_mul_ediv_left _ _ (by omega), Int.ediv_eq_zero_of_lt (by omega) (by omega)]
    push_cast
    omega
theorem floor_pos (y c : Nat) : (y : Int) / (c : Int) = ((y / c : Nat) : Int) := by push_cast; rfl
theorem shl_abs (x : Int) (n : Nat) : sg (ng x) (x.natAbs * 2 ^ n) = x * 2 ^ n := by
  have e : ((2 ^ n : Nat) : Int) = 2 ^ n := by push_cast; rfl
  unfold sg
  by_cases h : x < 0
  · rw [if_pos (ng_true.2 h)]
    rw [show x * 2 ^ n = -(-x * 2 ^ n) by rw [Int.neg_mul, Int.neg_neg], show -x = ((x.natAbs : Nat) : Int) by omega]
    push_cast; rfl
  · rw [if_neg (by rw [Bool.not_eq_true]; exact ng_false.2 (by omega))]
    rw [show x * 2 ^ n = ((x.natAbs : Nat) : Int) * 2 ^ n by rw [show ((x.natAbs : Nat) : Int) = x by omega]]
    push_cast; rfl
theorem valid_len {x : Int} {k : Nat} (h : (dg x).length ≤ k) : x.natAbs < 2 ^ (32 * k) := by
  have := dg_len.1 h
  rwa [show BB = 2 ^ 32 from rfl, ← Nat.pow_mul] at this
theorem shl_no {x : Int} {n k : Nat} (hx : x ≠ 0) (h : 32 * k ≤ n) : ¬ (dg (x * 2 ^ n)).length ≤ k := by
  intro hl
  have h1 := valid_len hl
  rw [Int.natAbs_mul, Int.natAbs_pow] at h1
  have h4 : 2 ^ (32 * k) ≤ 2 ^ n := Nat.pow_le_pow_right (by decide) h
  have h5 : 1 * 2 ^ n ≤ x.natAbs * 2 ^ n := Nat.mul_le_mul_right _ (by omega)
  rw [Nat.one_mul] at h5
  exact absurd (Nat.lt_of_le_of_lt (Nat.le_trans h4 h5) h1) (Nat.lt_irrefl _)
theorem floor_far {x : Int} {n m k : Nat} (hx : (dg x).length ≤ k) (hn : 32 * k ≤ n) (hm : 32 * k ≤ m) : x / 2 ^ n = x / 2 ^ m := by
  have hv := valid_len hx
  have hv2 : x.natAbs < 2 ^ n := Nat.lt_of_lt_of_le hv (Nat.pow_le_pow_right (by decide) hn)
  have hv1 : x.natAbs < 2 ^ m := Nat.lt_of_lt_of_le hv (Nat.pow_le_pow_right (by decide) hm)
  have p1 : ((2 ^ n : Nat) : Int) = 2 ^ n := by push_cast; rfl
  have p2 : ((2 ^ m : Nat) : Int) = 2 ^ m := by push_cast; rfl
  rw [← p1, ← p2]
  rcases Int.natAbs_eq x with h | h
  · rw [h, floor_pos, floor_pos, Nat.div_eq_of_lt hv1, Nat.div_eq_of_lt hv2]
  · rw [h, floor_neg _ _ (Nat.pow_pos (by decide)), floor_neg _ _ (Nat.pow_pos (by decide)), Nat.div_eq_of_lt hv1, Nat.div_eq_of_lt hv2, Nat.mod_eq_of_lt hv1, Nat.mod_eq_of_lt hv2]
theorem len_ge {x : Int} {k : Nat} (h : BB ^ k ≤ x.natAbs) : k < (dg x).length := by
  rcases Nat.lt_or_ge k (dg x).length with h1 | h1
  · exact h1
  · have := dg_len.1 h1; omega
theorem dig_shl (a n : Nat) : (dig (a * 2 ^ n)).length ≤ (dig a).length + (n / 32 + 1) := by
  have h := dig_mul a (2 ^ n)
  have h2 : (dig (2 ^ n)).length ≤ n / 32 + 1 := by
    rw [dig_len, show BB = 2 ^ 32 from rfl, ← Nat.pow_mul]
    exact Nat.pow_lt_pow_right (by decide) (by omega)
  omega
end Go.Proofs.YtnpomadbaanpkaaGreat

/- Walks of the reference of chapter 1: Shift. (Own work of this repo.) -/
namespace Go.Proofs.YtnpomadbaanpkaaGreat
open Vm
set_option maxRecDepth 10000

theorem vp_app_lo (a b : List Nat) : ∀ n, n ≤ a.length → vp (a ++ b) n = vp a n := by
  intro n h
  refine vp_congr n fun i hi => ?_
  rw [List.getD_eq_getElem?_getD, List.getD_eq_getElem?_getD, List.getElem?_append_left (by omega)]
theorem val_app (a b : List Nat) : val (a ++ b) = val a + BB ^ a.length * val b := by
  have h := val_split (a := a ++ b) (q := a.length) (by rw [List.length_append]; omega)
  rw [vp_app_lo a b _ (Nat.le_refl _), List.drop_left] at h
  exact h
theorem inR_app {a b : List Nat} (ha : InR a) (hb : InR b) : InR (a ++ b) := fun x hx => by
  rcases List.mem_append.1 hx with h | h
  · exact ha x h
  · exact hb x h
theorem rShift_pos (m : Bool) (x : Int) (n : Nat) (hx : (dg x).length < 2 ^ 36) (hn : n < 2 ^ 37) : ∃ f : Bool, denP E 97 [I m x, .int .i64 n] = some (.ret (I f (x * 2 ^ n))) ∧ True := by
  refine denP_ex E97 rfl (by simp [AV.pureL, AV.pure, pure_wd]) ?_
  have h1 := rZero_spec m x
  by_cases h0 : x = 0
  · rw [decide_eq_true h0] at h1
    have e3 : x * 2 ^ n = x := by rw [h0, Int.zero_mul]
    rw [e3]
    simp (maxSteps := 4000000) (disch := omega) only [go_sem, ↓reduceIte, Nat.reduceAdd, Nat.reduceSub, Nat.reduceMul, Nat.reduceEqDiff, reduceCtorEq, Int.reduceAdd, Int.reduceLT, Int.reduceLE, Int.reduceToNat, Int.reduceNeg, Int.reduceSub, ← List.map_take, ← List.map_drop, wrap64, wrapu64, wrapu32, Tryz.f97, h1]
    exact ⟨m, rfl⟩
  · rw [decide_eq_false h0] at h1
    have e1 : (n : Int).tdiv 32 = ((n / 32 : Nat) : Int) := rfl
    have e2 : (n : Int).tmod 32 = ((n % 32 : Nat) : Int) := rfl
    have hpow := pow32 n
    have hsh := shl_abs x n
    generalize hq : n / 32 = q at *
    generalize hk : n % 32 = k at *
    obtain ⟨o, h2, hor, hol, hov⟩ := shifted_walk m (dg x) k (dg_inR x) (by omega) (by omega)
    rw [val_dg] at hov
    have hv : val (zs q ++ o) = x.natAbs * 2 ^ n := by
      rw [val_app, zs_len, hov, show val (zs q) = 0 from zs_vp _ _, hpow]; generalize BB ^ q = w; generalize 2 ^ k = v; grind
    have hlen : (zs q ++ o).length = q + o.length := by rw [List.length_append, zs_len]
    have h3 := rMake_z (neg := ng x) (nl := false) (w := zs q ++ o) (z := x * 2 ^ n) (inR_app (zs_inR q) hor) (by omega) (by rw [hv, hsh])
    clear hv hov hpow hsh
    simp (maxSteps := 4000000) (disch := omega) only [go_sem, ↓reduceIte, Nat.reduceAdd, Nat.reduceSub, Nat.reduceMul, Nat.reduceEqDiff, reduceCtorEq, Int.reduceAdd, Int.reduceLT, Int.reduceLE, Int.reduceToNat, Int.reduceNeg, Int.reduceSub, ← List.map_take, ← List.map_drop, wrap64, wrapu64, wrapu32, ← Int.natCast_add, ← Int.natCast_mul, cast_succ, wrapu32_nat, shr32, reps_wd, map_set_wd, List.length_set, zs_len, Tryz.f97, h1]
    refine W_drawn ?_
    simp (maxSteps := 4000000) (disch := omega) only [go_sem, ↓reduceIte, Nat.reduceAdd, Nat.reduceSub, Nat.reduceMul, Nat.reduceEqDiff, reduceCtorEq, Int.reduceAdd, Int.reduceLT, Int.reduceLE, Int.reduceToNat, Int.reduceNeg, Int.reduceSub, ← List.map_take, ← List.map_drop, wrap64, wrapu64, wrapu32, ← Int.natCast_add, ← Int.natCast_mul, cast_succ, wrapu32_nat, shr32, reps_wd, map_set_wd, List.length_set, zs_len, e1, e2, appendEff, srcCells, h2, zs_len, ← List.map_append, hlen, List.take_of_length_le, h3]
    exact ⟨by rfl, _, rfl⟩
/-- In place: each word with the low part of the next one. -/
theorem top_zero {o : List Nat} {k : Nat} (hl : o.length = k + 1) (h : val o < BB ^ k) : o.getD k 0 = 0 := by
  rw [val, hl, vp] at h
  rcases Nat.eq_zero_or_pos (o.getD k 0) with h0 | h0
  · exact h0
  · have : 1 * BB ^ k ≤ o.getD k 0 * BB ^ k := Nat.mul_le_mul_right _ h0
    omega
/-- A word with the low part of the next one. -/
def rwd (s : Nat) (o : List Nat) (t : Nat) : Nat := (o.getD t 0 + o.getD (t + 1) 0 * 4294967296) / 2 ^ s % 4294967296
theorem rShift_neg (m : Bool) (x : Int) (n : Nat) (hx : (dg x).length < 2 ^ 31) (hn : 0 < n) (hn2 : n ≤ 2 ^ 63) : ∃ f : Bool, denP E 97 [I m x, .int .i64 (-(n : Int))] = some (.ret (I f (x / 2 ^ n))) ∧ True := by
  obtain ⟨k, hk⟩ : ∃ k : Nat, k = min n (32 * (dg x).length + 1) := ⟨_, rfl⟩
  have hfl : x / 2 ^ n = x / 2 ^ k := by
    by_cases hnk : n ≤ 32 * (dg x).length
    · rw [show k = n by omega]
    · exact floor_far (Nat.le_refl _) (by omega) (by omega)
  have hk0 : 0 < k := by omega
  have hk1 : k ≤ 32 * (dg x).length + 1 := by omega
  have p2 : ((2 ^ k : Nat) : Int) = 2 ^ k := by push_cast; rfl
  have hc : 0 < 2 ^ k := Nat.pow_pos (by decide)
  have e1 : (k : Int).tdiv 32 = ((k / 32 : Nat) : Int) := rfl
  have e2 : (k : Int).tmod 32 = ((k % 32 : Nat) : Int) := rfl
  -- what is out
  obtain ⟨w, hw⟩ : ∃ w : Int, w = sg (ng x) (x.natAbs / 2 ^ k) := ⟨_, rfl⟩
  have hwl : (dg w).length ≤ (dg x).length := by
    rw [hw, dg_sg]; exact dig_mono (Nat.div_le_self _ _)
  refine denP_ex E97 rfl (by simp [AV.pureL, AV.pure, pure_wd]) ?_
  rw [hfl]
  simp (maxSteps := 4000000) (disch := omega) only [go_sem, ↓reduceIte, Nat.reduceAdd, Nat.reduceSub, Nat.reduceMul, Nat.reduceEqDiff, reduceCtorEq, Int.reduceAdd, Int.reduceLT, Int.reduceLE, Int.reduceToNat, Int.reduceNeg, Int.reduceSub, ← List.map_take, ← List.map_drop, wrap64, wrapu64, wrapu32, ← Int.natCast_add, ← Int.natCast_mul, cast_succ, wrapu32_nat, shr32, reps_wd, map_set_wd, List.length_set, zs_len, Tryz.f97]
  refine condK_mono (Q := fun e σ => e = .norm ∧ (∃ g : Nat → AV, σ.sl = [g 0, .int .i64 (-(k : Int)), .ptr 0 0, g 3, .ptr 1 0, g 5, g 6, g 7, g 8, g 9, g 10, g 11, g 12, g 13, g 14, g 15, g 16, g 17, g 18, g 19, g 20, g 21, g 22, g 23, g 24, g 25, g 26, g 27, g 28, g 29, g 30, g 31, g 32, g 33, g 34, g 35, g 36, g 37, g 38, g 39, g 40, g 41, g 42, g 43, g 44, g 45, g 46, g 47, g 48, g 49, g 50, g 51, g 52, g 53, g 54, g 55, g 56, g 57, g 58, g 59, g 60, g 61, g 62, g 63, g 64, g 65, g 66, g 67, g 68, g 69, g 70, g 71, g 72, g 73, g 74, g 75, g 76, g 77, g 78, g 79, g 80, g 81, g 82, g 83, g 84, g 85, g 86, g 87, g 88, g 89, g 90, g 91, g 92, g 93, g 94, g 95, g 96]) ∧ σ.nx = 2 ∧
    σ.h 0 = some ⟨[.bool (ng x), .lst m ((dg x).map wd)], true, 2, false⟩ ∧ σ.h 1 = some ⟨[.bool false, .lst true []], true, 2, false⟩) ?_ ?_
  · rintro e ⟨sl, H, nx⟩ ⟨rfl, ⟨g, hs⟩, rfl, h0, h1⟩
    dsimp only at hs h0 h1
    subst hs
    have e3 : (0 : Int) - -(k : Int) = (k : Int) := by omega
    simp (maxSteps := 4000000) (disch := omega) only [go_sem, ↓reduceIte, Nat.reduceAdd, Nat.reduceSub, Nat.reduceMul, Nat.reduceEqDiff, reduceCtorEq, Int.reduceAdd, Int.reduceLT, Int.reduceLE, Int.reduceToNat, Int.reduceNeg, Int.reduceSub, ← List.map_take, ← List.map_drop, wrap64, wrapu64, wrapu32, ← Int.natCast_add, ← Int.natCast_mul, cast_succ, wrapu32_nat, shr32, reps_wd, map_set_wd, List.length_set, zs_len, h0, h1, e3, e1, places, fillAll]
    refine condK_mono (Q := fun e σ => e = .norm ∧ ∃ f N, (∃ g : Nat → AV, σ.sl = [g 0, .int .i64 k, .ptr 0 0, g 3, .ptr 1 0, .ptr 2 0, g 6, g 7, g 8, g 9, g 10, g 11, g 12, g 13, g 14, g 15, g 16, g 17, g 18, g 19, g 20, g 21, g 22, g 23, g 24, g 25, g 26, g 27, g 28, g 29, g 30, g 31, g 32, g 33, g 34, g 35, g 36, g 37, g 38, g 39, g 40, g 41, g 42, g 43, g 44, g 45, g 46, g 47, g 48, g 49, g 50, g 51, g 52, g 53, g 54, g 55, g 56, g 57, g 58, g 59, g 60, g 61, g 62, g 63, g 64, g 65, g 66, g 67, g 68, g 69, g 70, g 71, g 72, g 73, g 74, g 75, g 76, g 77, g 78, g 79, g 80, g 81, g 82, g 83, g 84, g 85, g 86, g 87, g 88, g 89, g 90, g 91, g 92, g 93, g 94, g 95, g 96]) ∧ σ.nx = N ∧
      σ.h 0 = some ⟨[.bool (ng x), .lst m ((dg x).map wd)], true, 2, false⟩ ∧ σ.h 1 = some ⟨[.bool false, .lst true []], true, 2, false⟩ ∧ σ.h 2 = some ⟨[.bool (ng w), .lst f ((dg w).map wd)], true, 2, false⟩) ?_ ?_
    · rintro e ⟨sl, H, nx⟩ ⟨rfl, f, N, ⟨g, hs⟩, rfl, h0, h1, h2⟩
      dsimp only at hs h0 h1 h2
      subst hs
      simp (maxSteps := 4000000) (disch := omega) only [go_sem, ↓reduceIte, Nat.reduceAdd, Nat.reduceSub, Nat.reduceMul, Nat.reduceEqDiff, reduceCtorEq, Int.reduceAdd, Int.reduceLT, Int.reduceLE, Int.reduceToNat, Int.reduceNeg, Int.reduceSub, ← List.map_take, ← List.map_drop, wrap64, wrapu64, wrapu32, ← Int.natCast_add, ← Int.natCast_mul, cast_succ, wrapu32_nat, shr32, reps_wd, map_set_wd, List.length_set, zs_len]
      refine W_drawn ?_
      cases hng : ng x with
      | false =>
        have hwx : w = x / ((2 ^ k : Nat) : Int) := by
          have hx0 := ng_false.1 hng
          rw [hw, hng]
          conv => rhs; rw [show x = ((x.natAbs : Nat) : Int) by omega, floor_pos]
          rfl
        rw [hng] at h0
        rw [← p2, ← hwx]
        clear hw hwx p2 hfl hc
        simp (maxSteps := 4000000) (disch := omega) only [go_sem, ↓reduceIte, Nat.reduceAdd, Nat.reduceSub, Nat.reduceMul, Nat.reduceEqDiff, reduceCtorEq, Int.reduceAdd, Int.reduceLT, Int.reduceLE, Int.reduceToNat, Int.reduceNeg, Int.reduceSub, ← List.map_take, ← List.map_drop, wrap64, wrapu64, wrapu32, ← Int.natCast_add, ← Int.natCast_mul, cast_succ, wrapu32_nat, shr32, reps_wd, map_set_wd, List.length_set, zs_len, h0, h1, h2]
        refine ⟨by rfl, f, rfl⟩
      | true =>
        have hx0 := ng_true.1 hng
        have hwn : w = -((x.natAbs / 2 ^ k : Nat) : Int) := by rw [hw, hng]; rfl
        have ex : x / ((2 ^ k : Nat) : Int) = -((x.natAbs / 2 ^ k + (if x.natAbs % 2 ^ k = 0 then 0 else 1) : Nat) : Int) := by
          conv => lhs; rw [show x = -((x.natAbs : Nat) : Int) by omega, floor_neg _ _ hc]
        have hdm := Nat.div_add_mod x.natAbs (2 ^ k)
        have hwx : w * 2 ^ k = x ↔ x.natAbs % 2 ^ k = 0 := by
          rw [← p2, hwn]
          have e : -((x.natAbs / 2 ^ k : Nat) : Int) * ((2 ^ k : Nat) : Int) = -(((2 ^ k) * (x.natAbs / 2 ^ k) : Nat) : Int) := by
            rw [Int.neg_mul, Int.natCast_mul, Int.mul_comm]
          rw [e]
          generalize 2 ^ k * (x.natAbs / 2 ^ k) = d at *
          omega
        obtain ⟨f2, h3, _⟩ := rShift_pos f w k (by omega) (by omega)
        have hwl2 : (dg (w * 2 ^ k)).length < 2 ^ 40 := by
          have h4 := dig_shl w.natAbs k
          have h5 : dg (w * 2 ^ k) = dig (w.natAbs * 2 ^ k) := by
            unfold dg; rw [Int.natAbs_mul, Int.natAbs_pow]; rfl
          have h6 : (dig w.natAbs).length ≤ (dg x).length := hwl
          rw [h5]; omega
        have h4 := rCmp_spec f2 (w * 2 ^ k) m x hwl2 (by omega)
        simp only [I, hng] at h4
        rw [hng] at h0
        by_cases hr : x.natAbs % 2 ^ k = 0
        · have hcm : cmpI (w * 2 ^ k) x = 0 := by rw [hwx.2 hr]; unfold cmpI; rw [if_neg (by omega), if_neg (by omega)]
          rw [hcm] at h4
          have hres : w = x / ((2 ^ k : Nat) : Int) := by rw [ex, if_pos hr, hwn]; rfl
          rw [← p2, ← hres]
          clear hw hwn ex hdm hwx hres p2 hfl hc hr
          simp (maxSteps := 4000000) (disch := omega) only [go_sem, ↓reduceIte, Nat.reduceAdd, Nat.reduceSub, Nat.reduceMul, Nat.reduceEqDiff, reduceCtorEq, Int.reduceAdd, Int.reduceLT, Int.reduceLE, Int.reduceToNat, Int.reduceNeg, Int.reduceSub, ← List.map_take, ← List.map_drop, wrap64, wrapu64, wrapu32, ← Int.natCast_add, ← Int.natCast_mul, cast_succ, wrapu32_nat, shr32, reps_wd, map_set_wd, List.length_set, zs_len, h0, h1, h2, h3, h4]
          exact ⟨by rfl, f, rfl⟩
        · have hcm : cmpI (w * 2 ^ k) x ≠ 0 := by
            intro h
            unfold cmpI at h
            refine hr (hwx.1 ?_)
            split at h
            · omega
            · split at h
              · omega
              · omega
          have hres : w - 1 = x / ((2 ^ k : Nat) : Int) := by rw [ex, if_neg hr, hwn]; omega
          have h5 := rOf_spec 1 (by decide) (by decide)
          have h6 := rSub_spec f w false 1 (by omega) (by have := dg_small (z := 1) (by decide); omega)
          rw [← p2, ← hres]
          generalize cmpI (w * 2 ^ k) x = cv at *
          clear hw hwn ex hdm hwx hres p2 hfl hc hr
          simp (maxSteps := 4000000) (disch := omega) only [go_sem, ↓reduceIte, Nat.reduceAdd, Nat.reduceSub, Nat.reduceMul, Nat.reduceEqDiff, reduceCtorEq, Int.reduceAdd, Int.reduceLT, Int.reduceLE, Int.reduceToNat, Int.reduceNeg, Int.reduceSub, ← List.map_take, ← List.map_drop, wrap64, wrapu64, wrapu32, ← Int.natCast_add, ← Int.natCast_mul, cast_succ, wrapu32_nat, shr32, reps_wd, map_set_wd, List.length_set, zs_len, h0, h1, h2, h3, h4]
          refine ⟨by rfl, ?_⟩
          refine W_drawn ?_
          simp (maxSteps := 4000000) (disch := omega) only [go_sem, ↓reduceIte, Nat.reduceAdd, Nat.reduceSub, Nat.reduceMul, Nat.reduceEqDiff, reduceCtorEq, Int.reduceAdd, Int.reduceLT, Int.reduceLE, Int.reduceToNat, Int.reduceNeg, Int.reduceSub, ← List.map_take, ← List.map_drop, wrap64, wrapu64, wrapu32, ← Int.natCast_add, ← Int.natCast_mul, cast_succ, wrapu32_nat, shr32, reps_wd, map_set_wd, List.length_set, zs_len, h0, h1, h2, h5, h6]
          exact ⟨by rfl, _, rfl⟩
    · by_cases hql : (dg x).length ≤ k / 32
      · have hw0 : w = 0 := by
          have h4 : x.natAbs < BB ^ (k / 32) := dg_len.1 hql
          have h5 : x.natAbs < 2 ^ k := by
            refine Nat.lt_of_lt_of_le h4 ?_
            rw [show BB = 2 ^ 32 from rfl, ← Nat.pow_mul]
            exact Nat.pow_le_pow_right (by decide) (by omega)
          rw [hw, Nat.div_eq_of_lt h5]; unfold sg; split <;> rfl
        subst hw0
        clear hw p2 hfl hc
        simp (maxSteps := 4000000) (disch := omega) only [go_sem, ↓reduceIte, Nat.reduceAdd, Nat.reduceSub, Nat.reduceMul, Nat.reduceEqDiff, reduceCtorEq, Int.reduceAdd, Int.reduceLT, Int.reduceLE, Int.reduceToNat, Int.reduceNeg, Int.reduceSub, ← List.map_take, ← List.map_drop, wrap64, wrapu64, wrapu32, ← Int.natCast_add, ← Int.natCast_mul, cast_succ, wrapu32_nat, shr32, reps_wd, map_set_wd, List.length_set, zs_len, h0, h1, ng_zero, dg_zero]
        exact ⟨true, 3, garb rfl, rfl, rfl⟩
      · have hlx : k / 32 < (dg x).length := by omega
        have hpow := pow32 k
        have hsr : k % 32 < 32 := Nat.mod_lt _ (by decide)
        obtain ⟨b, hb⟩ : ∃ b, b = (dg x).drop (k / 32) := ⟨_, rfl⟩
        generalize k / 32 = q at *
        generalize hs : k % 32 = s at *
        have hbl : b.length = (dg x).length - q := by rw [hb, List.length_drop]
        have hbr : InR b := by rw [hb]; exact (dg_inR x).drop q
        have hwb : w = sg (ng x) (val b / 2 ^ s) := by
          have hsplit := val_split (a := dg x) (q := q) (by omega)
          rw [← hb, val_dg] at hsplit
          have hvq := vp_lt (dg_inR x) q
          rw [hw, hsplit, hpow, Nat.mul_comm (2 ^ s), ← Nat.div_div_eq_div_mul, Nat.add_mul_div_left _ _ (Nat.pow_pos (by decide)), Nat.div_eq_of_lt hvq, Nat.zero_add]
        have hb' : (dg x).drop q = b := hb.symm
        have e5 : ((dg x).length : Int) - q = (b.length : Int) := by omega
        have hsh := shifted_open m b 0 hbr (by omega) (by decide)
        simp only [show (((0 : Nat) : Int)) = 0 from rfl] at hsh
        obtain ⟨L, hL⟩ : ∃ L, L = b.length + 1 := ⟨_, rfl⟩
        rw [← hL] at hsh
        clear hw p2 hfl hc hpow hwl hb
        simp (maxSteps := 4000000) (disch := omega) only [go_sem, ↓reduceIte, Nat.reduceAdd, Nat.reduceSub, Nat.reduceMul, Nat.reduceEqDiff, reduceCtorEq, Int.reduceAdd, Int.reduceLT, Int.reduceLE, Int.reduceToNat, Int.reduceNeg, Int.reduceSub, ← List.map_take, ← List.map_drop, wrap64, wrapu64, wrapu32, ← Int.natCast_add, ← Int.natCast_mul, cast_succ, wrapu32_nat, shr32, reps_wd, map_set_wd, List.length_set, zs_len, h0, h1, cutBounds, List.take_of_length_le, e1, hb']
        refine openK_ex (hsh _ _) ?_
        rintro o H' ⟨ho2, ho3, hor, hol, hov⟩
        clear hsh
        have h0' := ho3 0 (by decide)
        have h1' := ho3 1 (by decide)
        have h2' := ho3 2 (by decide)
        rw [upd_ne (by decide), upd_ne (by decide)] at h0' h1'
        rw [upd_same] at h2'
        rw [h0] at h0'
        rw [h1] at h1'
        clear ho3 h0 h1
        rw [Nat.pow_zero, Nat.mul_one] at hov
        have htop : o.getD b.length 0 = 0 := top_zero (hol.trans hL) (by rw [hov]; exact val_lt hbr)
        simp (maxSteps := 4000000) (disch := omega) only [go_sem, ↓reduceIte, Nat.reduceAdd, Nat.reduceSub, Nat.reduceMul, Nat.reduceEqDiff, reduceCtorEq, Int.reduceAdd, Int.reduceLT, Int.reduceLE, Int.reduceToNat, Int.reduceNeg, Int.reduceSub, ← List.map_take, ← List.map_drop, wrap64, wrapu64, wrapu32, ← Int.natCast_add, ← Int.natCast_mul, cast_succ, wrapu32_nat, shr32, reps_wd, map_set_wd, List.length_set, zs_len]
        refine W_loopS (fun j sl H nx => ∃ (i : Nat) (p : List Nat), (∃ g : Nat → AV, sl = [g 0, .int .i64 k, .ptr 0 0, g 3, .ptr 1 0, .ptr 2 0, .ref 3 0 L, .int .i64 i, g 8, g 9, g 10, g 11, g 12, g 13, g 14, g 15, g 16, g 17, g 18, g 19, g 20, g 21, g 22, g 23, g 24, g 25, g 26, g 27, g 28, g 29, g 30, g 31, g 32, g 33, g 34, g 35, g 36, g 37, g 38, g 39, g 40, g 41, g 42, g 43, g 44, g 45, g 46, g 47, g 48, g 49, g 50, g 51, g 52, g 53, g 54, g 55, g 56, g 57, g 58, g 59, g 60, g 61, g 62, g 63, g 64, g 65, g 66, g 67, g 68, g 69, g 70, g 71, g 72, g 73, g 74, g 75, g 76, g 77, g 78, g 79, g 80, g 81, g 82, g 83, g 84, g 85, g 86, g 87, g 88, g 89, g 90, g 91, g 92, g 93, g 94, g 95, g 96]) ∧ nx = 4 ∧
          H 0 = some ⟨[.bool (ng x), .lst m ((dg x).map wd)], true, 2, false⟩ ∧ H 1 = some ⟨[.bool false, .lst true []], true, 2, false⟩ ∧ H 2 = some ⟨[.bool false, .lst true []], true, 2, false⟩ ∧
          H 3 = some ⟨p.map wd, false, 1, false⟩ ∧ p.length = L ∧ InR p ∧ i + j = b.length ∧ Hd (∀ t, t < i → p.getD t 0 = rwd s o t) ∧ Hd (∀ t, i ≤ t → p.getD t 0 = o.getD t 0)) b.length
          ⟨0, o, garb rfl, rfl, h0', h1', h2', ho2, hol, hor, by omega, ⟨fun t ht => by omega⟩, ⟨fun t ht => rfl⟩⟩ ?_
        clear h0' h1' h2' ho2
        rintro j _ H' _ ⟨i, p, ⟨g, rfl⟩, rfl, h0, h1, h2, h3, hpl, hpr, hi, hv, hz⟩
        by_cases hj : j = 0
        · obtain rfl : i = b.length := by omega
          have hval : val p = val b / 2 ^ s := by
            have hrv := right_val (o := p) (b := o) hsr hor (by omega) (fun t ht => by
              by_cases htb : t < b.length
              · exact hv.out t htb
              · obtain rfl : t = b.length := by omega
                rw [hz.out _ (Nat.le_refl _), htop, getD_ge (by omega), Nat.zero_mul, Nat.zero_add, Nat.zero_div])
            rw [← hov, hrv, Nat.mul_add_div (Nat.pow_pos (by decide)), Nat.div_eq_of_lt (Nat.mod_lt _ (Nat.pow_pos (by decide))), Nat.add_zero]
          have hmk := rMake_z (neg := ng x) (nl := false) (w := p) (z := w) hpr (by omega) (by rw [hval, hwb])
          clear hv hz hval hwb
          simp (maxSteps := 4000000) (disch := omega) only [go_sem, ↓reduceIte, Nat.reduceAdd, Nat.reduceSub, Nat.reduceMul, Nat.reduceEqDiff, reduceCtorEq, Int.reduceAdd, Int.reduceLT, Int.reduceLE, Int.reduceToNat, Int.reduceNeg, Int.reduceSub, ← List.map_take, ← List.map_drop, wrap64, wrapu64, wrapu32, ← Int.natCast_add, ← Int.natCast_mul, cast_succ, wrapu32_nat, shr32, reps_wd, map_set_wd, List.length_set, zs_len, h0, h1, h2, h3, hpl, List.take_of_length_le, hmk]
          refine ⟨decide (w = 0), 4, ?_, rfl, rfl⟩
          exact garb rfl
        · have hbb : b.length < 2147483648 := by omega
          clear hx
          have hx := hor.get i
          have hy := hor.get (i + 1)
          have hpx := hz.out i (Nat.le_refl _)
          have hpy := hz.out (i + 1) (by omega)
          have e6 := shl32 hy
          obtain ⟨Y, hY⟩ : ∃ Y, Y = o.getD (i + 1) 0 * 4294967296 := ⟨_, rfl⟩
          have hYb : Y ≤ 18446744069414584320 := by omega
          rw [← hY] at e6
          obtain ⟨X, hX⟩ : ∃ X, X = o.getD i 0 + Y := ⟨_, rfl⟩
          have hXb : X / 2 ^ s < 18446744073709551616 := Nat.lt_of_le_of_lt (Nat.div_le_self _ _) (by omega)
          have hXb2 : X < 18446744073709551616 := by omega
          have e7 := and_low hXb
          obtain ⟨Z, hZ⟩ : ∃ Z, Z = X / 2 ^ s % 4294967296 := ⟨_, rfl⟩
          have hZb : Z < 4294967296 := by rw [hZ]; exact Nat.mod_lt _ (by decide)
          have e8 : Z % 4294967296 = Z := Nat.mod_eq_of_lt hZb
          have e9 : o.getD i 0 + Y = X := hX.symm
          rw [← hZ] at e7
          have stp : Hd (∀ t, t < i + 1 → (p.set i Z).getD t 0 = rwd s o t) := by
            refine ⟨fun t ht => ?_⟩
            by_cases hti : t = i
            · subst hti; rw [lget_set_self (by omega), hZ, hX, hY]; rfl
            · rw [lget_set_ne (by omega)]; exact hv.out t (by omega)
          have stz : Hd (∀ t, i + 1 ≤ t → (p.set i Z).getD t 0 = o.getD t 0) := ⟨fun t ht => by rw [lget_set_ne (by omega)]; exact hz.out t (by omega)⟩
          clear hv hz hX hZ hY hwb hov htop hXb e1 e3 e5 hql hlx hbl hb' hs hk hk0 hk1 hn hn2 hol hor hbr
          simp (maxSteps := 4000000) (disch := omega) only [go_sem, ↓reduceIte, Nat.reduceAdd, Nat.reduceSub, Nat.reduceMul, Nat.reduceEqDiff, reduceCtorEq, Int.reduceAdd, Int.reduceLT, Int.reduceLE, Int.reduceToNat, Int.reduceNeg, Int.reduceSub, ← List.map_take, ← List.map_drop, wrap64, wrapu64, wrapu32, ← Int.natCast_add, ← Int.natCast_mul, cast_succ, wrapu32_nat, shr32, reps_wd, map_set_wd, List.length_set, zs_len, h0, h1, h2, h3, hpl]
          refine W_mono (Q := fun e σ => e = .norm ∧ (∃ g : Nat → AV, σ.sl = [g 0, .int .i64 k, .ptr 0 0, g 3, .ptr 1 0, .ptr 2 0, .ref 3 0 L, .int .i64 i, g 8, g 9, g 10, g 11, g 12, g 13, g 14, g 15, g 16, g 17, g 18, g 19, g 20, g 21, g 22, g 23, g 24, g 25, g 26, g 27, g 28, g 29, g 30, g 31, g 32, g 33, g 34, g 35, g 36, g 37, g 38, g 39, g 40, g 41, g 42, g 43, g 44, g 45, g 46, g 47, g 48, g 49, g 50, g 51, g 52, g 53, g 54, g 55, g 56, g 57, g 58, g 59, g 60, g 61, g 62, g 63, g 64, g 65, g 66, g 67, g 68, g 69, g 70, g 71, g 72, g 73, g 74, g 75, g 76, g 77, g 78, g 79, g 80, g 81, g 82, g 83, g 84, g 85, g 86, g 87, g 88, g 89, g 90, g 91, g 92, g 93, g 94, g 95, g 96]) ∧ σ.nx = 4 ∧
            σ.h 0 = some ⟨[.bool (ng x), .lst m ((dg x).map wd)], true, 2, false⟩ ∧ σ.h 1 = some ⟨[.bool false, .lst true []], true, 2, false⟩ ∧ σ.h 2 = some ⟨[.bool false, .lst true []], true, 2, false⟩ ∧ σ.h 3 = some ⟨(p.set i Z).map wd, false, 1, false⟩) (W_drawn ?_) ?_
          · have hip1 : i < L := by omega
            have hip2 : i + 1 < L := by omega
            have hLb : L < 2147483649 := by omega
            have hin : (0 : Int) ≤ (i : Int) := by omega
            clear hi hj hbb hL stp stz hZb
            have w1 := wrapu64 (x := ((o.getD (i + 1) 0 : Nat) : Int)) (by omega) (by omega)
            have w2 := wrapu64 (x := ((o.getD i 0 : Nat) : Int)) (by omega) (by omega)
            have w3 := wrapu64 (x := ((X : Nat) : Int)) (by omega) (by omega)
            have w4 := wrap64 (x := ((i + 1 : Nat) : Int)) (by omega) (by omega)
            simp (maxSteps := 4000000) (disch := omega) only [go_sem, ↓reduceIte, Nat.reduceAdd, Nat.reduceSub, Nat.reduceMul, Nat.reduceEqDiff, reduceCtorEq, Int.reduceAdd, Int.reduceLT, Int.reduceLE, Int.reduceToNat, Int.reduceNeg, Int.reduceSub, ← List.map_take, ← List.map_drop, ← Int.natCast_add, ← Int.natCast_mul, cast_succ, wrapu32_nat, shr32, reps_wd, map_set_wd, List.length_set, zs_len, h0, h1, h2, h3, hpl, hpx, hpy, w1, w2, w3, w4, e6, e2, shr_k, e7, e8, e9]
            exact ⟨by rfl, garb rfl⟩
          · rintro e ⟨sl, H, nx⟩ ⟨rfl, ⟨g, hs⟩, rfl, h0, h1, h2, h3⟩
            dsimp only at hs h0 h1 h2 h3
            subst hs
            simp (maxSteps := 4000000) (disch := omega) only [go_sem, ↓reduceIte, Nat.reduceAdd, Nat.reduceSub, Nat.reduceMul, Nat.reduceEqDiff, reduceCtorEq, Int.reduceAdd, Int.reduceLT, Int.reduceLE, Int.reduceToNat, Int.reduceNeg, Int.reduceSub, ← List.map_take, ← List.map_drop, wrap64, wrapu64, wrapu32, ← Int.natCast_add, ← Int.natCast_mul, cast_succ, wrapu32_nat, shr32, reps_wd, map_set_wd, List.length_set, zs_len, h0, h1, h2, h3]
            exact ⟨j - 1, by omega, i + 1, p.set i Z, garb rfl, rfl, by rw [List.length_set, hpl], hpr.set hZb, by omega, stp, stz⟩
  · by_cases hcl : 32 * (dg x).length < n
    · have e4 : (-32 : Int) * ((dg x).length : Int) - 1 = -(k : Int) := by omega
      simp (maxSteps := 4000000) (disch := omega) only [go_sem, ↓reduceIte, Nat.reduceAdd, Nat.reduceSub, Nat.reduceMul, Nat.reduceEqDiff, reduceCtorEq, Int.reduceAdd, Int.reduceLT, Int.reduceLE, Int.reduceToNat, Int.reduceNeg, Int.reduceSub, ← List.map_take, ← List.map_drop, wrap64, wrapu64, wrapu32, ← Int.natCast_add, ← Int.natCast_mul, cast_succ, wrapu32_nat, shr32, reps_wd, map_set_wd, List.length_set, zs_len, e4]
      exact garb rfl
    · have e4 : -(n : Int) = -(k : Int) := by omega
      simp (maxSteps := 4000000) (disch := omega) only [go_sem, ↓reduceIte, Nat.reduceAdd, Nat.reduceSub, Nat.reduceMul, Nat.reduceEqDiff, reduceCtorEq, Int.reduceAdd, Int.reduceLT, Int.reduceLE, Int.reduceToNat, Int.reduceNeg, Int.reduceSub, ← List.map_take, ← List.map_drop, wrap64, wrapu64, wrapu32, ← Int.natCast_add, ← Int.natCast_mul, cast_succ, wrapu32_nat, shr32, reps_wd, map_set_wd, List.length_set, zs_len, e4]
      exact garb rfl
end Go.Proofs.YtnpomadbaanpkaaGreat

/- Walks of the reference of chapter 1: long division. (Own work of this repo.) -/
namespace Go.Proofs.YtnpomadbaanpkaaGreat
open Vm
set_option maxRecDepth 100000

theorem shl_u32 {x s : Nat} (hs : s ≤ 31) (h : x * 2 ^ s < 4294967296) : IntKind.u32.wrap ((x : Int) * 2 ^ min s (kb .u32)) = ((x * 2 ^ s : Nat) : Int) := by
  rw [show min s (kb .u32) = s from Nat.min_eq_left (show s ≤ 32 by omega), show (x : Int) * 2 ^ s = ((x * 2 ^ s : Nat) : Int) by push_cast; rfl]
  exact wrapu32 (by omega) (by omega)
theorem top_shift {x s : Nat} (h : bl x + s ≤ 31) : x * 2 ^ s < 2147483648 := by
  have h1 := Nat.mul_lt_mul_of_pos_right (bl_lt x) (show 0 < 2 ^ s from Nat.pow_pos (by decide))
  rw [← Nat.pow_add] at h1
  exact Nat.lt_of_lt_of_le h1 (Nat.pow_le_pow_right (by decide) h : 2 ^ (bl x + s) ≤ 2 ^ 31)
theorem top_shift' {x s : Nat} (h0 : x ≠ 0) (h : bl x + s = 32) : 2147483648 ≤ x * 2 ^ s ∧ x * 2 ^ s < 4294967296 := by
  have h1 := Nat.mul_lt_mul_of_pos_right (bl_lt x) (show 0 < 2 ^ s from Nat.pow_pos (by decide))
  rw [← Nat.pow_add, h] at h1
  have h2 := Nat.mul_le_mul_right (2 ^ s) (bl_ge h0)
  have h3 := bl_nz h0
  rw [← Nat.pow_add, show bl x - 1 + s = 31 by omega] at h2
  exact ⟨h2, h1⟩
set_option maxHeartbeats 8000000 in
theorem rLong_spec (ma : Bool) (a : List Nat) (mb : Bool) (b : List Nat) (ha : Norm a) (hb : Norm b) (m : Nat) (hm : b.length = m + 1 + 1) (hab : b.length ≤ a.length) (la : a.length < 2 ^ 30) :
    ∃ z : List Nat × Bool, denP E 79 [.lst ma (a.map wd), .lst mb (b.map wd)] = some (.ret (.tup [.lst false (z.1.map wd), .lst z.2 ((dig (val a % val b)).map wd)])) ∧ InR z.1 ∧ z.1.length < 2 ^ 36 ∧ val z.1 = val a / val b := by
  refine denP_ex E79 rfl (by simp [AV.pureL, AV.pure, pure_wd]) ?_
  have hb0 : b ≠ [] := fun e => by rw [e] at hm; simp at hm
  have hpos := norm_pos hb hb0
  obtain ⟨K, hK, hK32, hbl, hlo, hhi⟩ := top_pow hb hm
  have ht0 : b.getD (m + 1) 0 ≠ 0 := by
    have := hb.2.resolve_left hb0
    rwa [hm, Nat.add_sub_cancel] at this
  have hxx := hb.1.get (m + 1)
  have hst := kn_start (n := m + 1) (la := a.length) (val_lt ha.1) hlo hK32 (by omega)
  have b1 : ((m + 1 + 1 : Nat) : Int) - 1 = ((m + 1 : Nat) : Int) := by omega
  obtain ⟨x, hx⟩ : ∃ x, x = b.getD (m + 1) 0 := ⟨_, rfl⟩
  have hx' : b.getD (m + 1) 0 = x := hx.symm
  rw [← hx] at hK hbl ht0 hxx
  obtain ⟨V, hV⟩ : ∃ V, V = val b * 2 ^ K := ⟨_, rfl⟩
  obtain ⟨X, hX⟩ : ∃ X, X = val a * 2 ^ K := ⟨_, rfl⟩
  have hfin : ∀ q r, r + q * V = X → r < V → q = val a / val b ∧ r / 2 ^ K = val a % val b := fun q r h1 h2 => by
    rw [hV, hX] at h1; rw [hV] at h2; exact div_shift hpos h1 h2
  rw [← hV] at hst hlo hhi
  rw [← hX] at hst
  obtain ⟨L, hL⟩ : ∃ L, a.length = m + 1 + L := ⟨a.length - (m + 1), by omega⟩
  have hL0 : 0 < L := by omega
  rw [show a.length - (m + 1) = L by omega] at hst
  have hsa := shifted_open ma a K ha.1 (by omega) hK32
  have hsb := shifted_open mb b K hb.1 (by omega) hK32
  rw [← hV] at hsb
  rw [← hX] at hsa
  replace hfin := Hd.mk hfin
  replace hst := Hd.mk hst
  replace hlo := Hd.mk hlo
  replace hhi := Hd.mk hhi
  replace hV := Hd.mk hV
  replace hX := Hd.mk hX
  replace hpos := Hd.mk hpos
  simp (maxSteps := 4000000) (disch := omega) only [go_sem, ↓reduceIte, Nat.reduceAdd, Nat.reduceSub, Nat.reduceMul, Nat.reduceEqDiff, reduceCtorEq, Int.reduceAdd, Int.reduceLT, Int.reduceLE, Int.reduceToNat, Int.reduceNeg, Int.reduceSub, ← List.map_take, ← List.map_drop, wrap64, wrapu64, wrapu32, ← Int.natCast_add, ← Int.natCast_mul, cast_succ, wrapu32_nat, shr32, reps_wd, map_set_wd, List.length_set, zs_len, Tryz.f79]
  refine W_loopS (fun k sl H nx => ∃ s : Nat, (∃ g : Nat → AV, sl = [.lst ma (a.map wd), .lst mb (b.map wd), g 2, g 3, g 4, g 5, .int .i64 s, g 7, g 8, g 9, g 10, g 11, g 12, g 13, g 14, g 15, g 16, g 17, g 18, g 19, g 20, g 21, g 22, g 23, g 24, g 25, g 26, g 27, g 28, g 29, g 30, g 31, g 32, g 33, g 34, g 35, g 36, g 37, g 38, g 39, g 40, g 41, g 42, g 43, g 44, g 45, g 46, g 47, g 48, g 49, g 50, g 51, g 52, g 53, g 54, g 55, g 56, g 57, g 58, g 59, g 60, g 61, g 62, g 63, g 64, g 65, g 66, g 67, g 68, g 69, g 70, g 71, g 72, g 73, g 74, g 75, g 76, g 77, g 78, g 79, g 80, g 81, g 82, g 83, g 84, g 85, g 86, g 87, g 88, g 89, g 90, g 91, g 92, g 93, g 94, g 95, g 96, g 97, g 98, g 99, g 100, g 101, g 102, g 103, g 104, g 105, g 106, g 107, g 108, g 109, g 110, g 111, g 112, g 113, g 114, g 115, g 116, g 117, g 118, g 119, g 120, g 121, g 122, g 123, g 124, g 125, g 126, g 127, g 128, g 129, g 130, g 131, g 132, g 133, g 134, g 135, g 136, g 137, g 138, g 139, g 140, g 141, g 142, g 143, g 144, g 145, g 146, g 147, g 148, g 149, g 150, g 151, g 152, g 153, g 154, g 155, g 156, g 157, g 158, g 159, g 160, g 161, g 162, g 163, g 164, g 165, g 166, g 167, g 168, g 169, g 170, g 171, g 172, g 173, g 174, g 175, g 176, g 177, g 178, g 179, g 180, g 181, g 182, g 183, g 184, g 185, g 186, g 187, g 188, g 189, g 190, g 191, g 192, g 193, g 194, g 195, g 196, g 197, g 198, g 199, g 200, g 201, g 202, g 203, g 204, g 205, g 206, g 207, g 208, g 209, g 210, g 211, g 212, g 213, g 214, g 215, g 216, g 217, g 218, g 219, g 220, g 221, g 222]) ∧ H = Heap.empty ∧ nx = 0 ∧ s + k = K) K ⟨0, garb rfl, rfl, rfl, by omega⟩ ?_
  rintro k _ _ _ ⟨s, ⟨g, rfl⟩, rfl, rfl, hs⟩
  by_cases hk : k ≠ 0
  · have h1 := top_shift (x := x) (s := s) (by omega)
    have h2 := shl_u32 (x := x) (s := s) (by omega) (by omega)
    generalize x * 2 ^ s = y at *
    clear hsa hsb
    simp (maxSteps := 4000000) (disch := omega) only [go_sem, ↓reduceIte, Nat.reduceAdd, Nat.reduceSub, Nat.reduceMul, Nat.reduceEqDiff, reduceCtorEq, Int.reduceAdd, Int.reduceLT, Int.reduceLE, Int.reduceToNat, Int.reduceNeg, Int.reduceSub, ← List.map_take, ← List.map_drop, wrap64, wrapu64, wrapu32, ← Int.natCast_add, ← Int.natCast_mul, cast_succ, wrapu32_nat, shr32, reps_wd, map_set_wd, List.length_set, zs_len, hm, b1, hx', h2]
    exact ⟨k - 1, by omega, s + 1, garb rfl, by omega⟩
  · obtain rfl : s = K := by omega
    obtain ⟨h1, h1'⟩ := top_shift' (x := x) (s := s) ht0 (by omega)
    have h2 := shl_u32 (x := x) (s := s) (by omega) h1'
    generalize x * 2 ^ s = y at *
    clear hK hbl ht0 hxx
    simp (maxSteps := 4000000) (disch := omega) only [go_sem, ↓reduceIte, Nat.reduceAdd, Nat.reduceSub, Nat.reduceMul, Nat.reduceEqDiff, reduceCtorEq, Int.reduceAdd, Int.reduceLT, Int.reduceLE, Int.reduceToNat, Int.reduceNeg, Int.reduceSub, ← List.map_take, ← List.map_drop, wrap64, wrapu64, wrapu32, ← Int.natCast_add, ← Int.natCast_mul, cast_succ, wrapu32_nat, shr32, reps_wd, map_set_wd, List.length_set, zs_len, hm, b1, hx', h2]
    clear h1 h1' h2 hx hx'
    refine openK_ex (hsa _ _) ?_
    rintro oa H1 ⟨ha1, ha2, ra, oal, oav⟩
    clear hsa ha2
    have hpad : List.map wd oa ++ [AV.int .u32 0] = List.map wd (oa ++ zs 1) := by rw [List.map_append]; rfl
    have hcut : List.take (m + 1 + L + 1) (List.map wd oa) = List.map wd oa := by rw [List.take_of_length_le]; rw [List.length_map]; omega
    rw [hL] at oal
    simp (maxSteps := 4000000) (disch := omega) only [go_sem, ↓reduceIte, Nat.reduceAdd, Nat.reduceSub, Nat.reduceMul, Nat.reduceEqDiff, reduceCtorEq, Int.reduceAdd, Int.reduceLT, Int.reduceLE, Int.reduceToNat, Int.reduceNeg, Int.reduceSub, ← List.map_take, ← List.map_drop, wrap64, wrapu64, wrapu32, ← Int.natCast_add, ← Int.natCast_mul, cast_succ, wrapu32_nat, shr32, reps_wd, map_set_wd, List.length_set, zs_len, ha1, hL, oal, reps, fillAll, appendEff, srcCells, List.headD, hpad, List.take_of_length_le]
    refine openK_ex (hsb _ _) ?_
    rintro ob H2 ⟨hb1, hb2, rb, obl, obv⟩
    clear hsb
    have hb3 := hb2 2 (by decide)
    clear hb2
    simp only [upd_apply] at hb3
    have hb3 : H2 2 = some ⟨(oa ++ zs 1).map wd, false, 1, false⟩ := hb3
    have cl : ((m + 1 + L + 1 + 1 : Nat) : Int) - ((m + 1 + 1 : Nat) : Int) = ((L + 1 : Nat) : Int) := by omega
    have hvb : vp ob (m + 2) = V := by rw [vp_val (by rw [obv]; exact hhi.out), obv]
    have htz : ob.getD (m + 2) 0 = 0 := getD_of_lt (by rw [obv]; exact hhi.out) (Nat.le_refl _)
    have hv1 : 1 ≤ ob.getD (m + 1) 0 := by
      rcases Nat.eq_zero_or_pos (ob.getD (m + 1) 0) with h | h
      · have h2 := hvb
        rw [vp, h, Nat.zero_mul, Nat.add_zero] at h2
        have h3 := vp_lt rb (m + 1)
        have h4 := hlo.out
        have h5 : BB ^ (m + 1) * 1 ≤ BB ^ (m + 1) * 2147483648 := Nat.mul_le_mul_left _ (by decide)
        omega
      · exact h
    rw [hm] at obl
    simp (maxSteps := 4000000) (disch := omega) only [go_sem, ↓reduceIte, Nat.reduceAdd, Nat.reduceSub, Nat.reduceMul, Nat.reduceEqDiff, reduceCtorEq, Int.reduceAdd, Int.reduceLT, Int.reduceLE, Int.reduceToNat, Int.reduceNeg, Int.reduceSub, ← List.map_take, ← List.map_drop, wrap64, wrapu64, wrapu32, ← Int.natCast_add, ← Int.natCast_mul, cast_succ, wrapu32_nat, shr32, reps_wd, map_set_wd, List.length_set, zs_len, hb1, hb3, hm, obl, cutBounds, Nat.sub_zero, cl]
    refine W_loopS (fun k sl H nx => ∃ (o out : List Nat), (∃ g : Nat → AV, sl = [g 0, g 1, g 2, g 3, g 4, g 5, .int .i64 s, .ref 2 0 (m + 1 + L + 1 + 1), .ref 3 0 (m + 1 + 1), .int .i64 (m + 1 + 1 : Nat), .ref 4 0 (L + 1), .int .i64 ((k : Int) - 1), g 12, g 13, g 14, g 15, g 16, g 17, g 18, g 19, g 20, g 21, g 22, g 23, g 24, g 25, g 26, g 27, g 28, g 29, g 30, g 31, g 32, g 33, g 34, g 35, g 36, g 37, g 38, g 39, g 40, g 41, g 42, g 43, g 44, g 45, g 46, g 47, g 48, g 49, g 50, g 51, g 52, g 53, g 54, g 55, g 56, g 57, g 58, g 59, g 60, g 61, g 62, g 63, g 64, g 65, g 66, g 67, g 68, g 69, g 70, g 71, g 72, g 73, g 74, g 75, g 76, g 77, g 78, g 79, g 80, g 81, g 82, g 83, g 84, g 85, g 86, g 87, g 88, g 89, g 90, g 91, g 92, g 93, g 94, g 95, g 96, g 97, g 98, g 99, g 100, g 101, g 102, g 103, g 104, g 105, g 106, g 107, g 108, g 109, g 110, g 111, g 112, g 113, g 114, g 115, g 116, g 117, g 118, g 119, g 120, g 121, g 122, g 123, g 124, g 125, g 126, g 127, g 128, g 129, g 130, g 131, g 132, g 133, g 134, g 135, g 136, g 137, g 138, g 139, g 140, g 141, g 142, g 143, g 144, g 145, g 146, g 147, g 148, g 149, g 150, g 151, g 152, g 153, g 154, g 155, g 156, g 157, g 158, g 159, g 160, g 161, g 162, g 163, g 164, g 165, g 166, g 167, g 168, g 169, g 170, g 171, g 172, g 173, g 174, g 175, g 176, g 177, g 178, g 179, g 180, g 181, g 182, g 183, g 184, g 185, g 186, g 187, g 188, g 189, g 190, g 191, g 192, g 193, g 194, g 195, g 196, g 197, g 198, g 199, g 200, g 201, g 202, g 203, g 204, g 205, g 206, g 207, g 208, g 209, g 210, g 211, g 212, g 213, g 214, g 215, g 216, g 217, g 218, g 219, g 220, g 221, g 222]) ∧ nx = 5 ∧
      H 2 = some ⟨o.map wd, false, 1, false⟩ ∧ H 3 = some ⟨ob.map wd, false, 1, false⟩ ∧ H 4 = some ⟨out.map wd, false, 1, false⟩ ∧ o.length = m + 1 + L + 1 + 1 ∧ out.length = L + 1 ∧ InR o ∧ InR out ∧ k ≤ L + 1 ∧
      Hd (val o + val out * V = X) ∧ Hd (val o < V * BB ^ k) ∧ Hd (∀ i, i < k → out.getD i 0 = 0)) (L + 1)
      ⟨oa ++ zs 1, zs (L + 1), garb rfl, rfl, hb3, hb1, rfl, by rw [List.length_append, oal, zs_len], zs_len _, inR_pad ra 1, zs_inR _, by omega, ⟨by rw [val_pad, oav, show val (zs (L + 1)) = 0 from zs_vp _ _, Nat.zero_mul, Nat.add_zero]⟩,
        ⟨by rw [val_pad, oav, Nat.pow_succ, ← Nat.mul_assoc]; exact Nat.lt_of_lt_of_le hst.out (Nat.le_mul_of_pos_right _ (by decide))⟩, ⟨fun i _ => zs_get _ i⟩⟩ ?_
    clear hb1 hb3 ha1 hpad hcut oav oal ra hst hX hs
    rintro k _ H _ ⟨o, out, ⟨g, rfl⟩, rfl, h2, h3, h4, ol, outl, ro, rout, hk, hv, hb', hz⟩
    by_cases hk0 : k = 0
    · subst hk0
      have hvo : val o < V := by have := hb'.out; rwa [Nat.pow_zero, Nat.mul_one] at this
      have hres := hfin.out _ _ hv.out hvo
      have hmk := rMake_z (neg := false) (nl := false) (w := o) (z := ((val o : Nat) : Int)) ro (by omega) (by rfl)
      have hlo2 : (dg ((val o : Nat) : Int)).length < 2 ^ 31 := by
        rw [dg_nat]
        have : (dig (val o)).length ≤ m + 1 + 1 := dig_len.2 (Nat.lt_trans hvo hhi.out)
        omega
      have hsh : ∃ f : Bool, denP E 97 [RM ((val o : Nat) : Int), .int .i64 (0 - (s : Int))] = some (.ret (I f ((val a % val b : Nat) : Int))) ∧ True := by
        have e : ((val o : Nat) : Int) / 2 ^ s = ((val a % val b : Nat) : Int) := by rw [← hres.2]; push_cast; rfl
        by_cases hs0 : s = 0
        · subst hs0
          obtain ⟨f, h, _⟩ := rShift_pos (decide (((val o : Nat) : Int) = 0)) ((val o : Nat) : Int) 0 (by omega) (by decide)
          rw [Int.pow_zero, Int.mul_one] at h
          rw [Int.pow_zero, Int.ediv_one] at e
          rw [e] at h
          exact ⟨f, by rw [e]; exact h, trivial⟩
        · obtain ⟨f, h, _⟩ := rShift_neg (decide (((val o : Nat) : Int) = 0)) ((val o : Nat) : Int) s hlo2 (by omega) (by omega)
          rw [e] at h
          exact ⟨f, by rw [show (0 : Int) - (s : Int) = -(s : Int) by omega]; exact h, trivial⟩
      obtain ⟨f, hsh, _⟩ := hsh
      simp only [RM, I, ng_nat, dg_nat] at hsh hmk
      have hq := hres.1
      clear hv hb' hz hres hfin hvo hlo2 hV hhi hlo hvb htz hv1
      simp (maxSteps := 4000000) (disch := omega) only [go_sem, ↓reduceIte, Nat.reduceAdd, Nat.reduceSub, Nat.reduceMul, Nat.reduceEqDiff, reduceCtorEq, Int.reduceAdd, Int.reduceLT, Int.reduceLE, Int.reduceToNat, Int.reduceNeg, Int.reduceSub, ← List.map_take, ← List.map_drop, wrap64, wrapu64, wrapu32, ← Int.natCast_add, ← Int.natCast_mul, cast_succ, wrapu32_nat, shr32, reps_wd, map_set_wd, List.length_set, zs_len, h2, h3, h4, ol, outl, List.take_of_length_le, hmk, hsh, partOf]
      exact ⟨(out, f), rfl, rout, (show out.length < 2 ^ 36 by omega), hq⟩
    · obtain ⟨j, rfl⟩ : ∃ j, k = j + 1 := ⟨k - 1, by omega⟩
      have j1 : ((j + 1 : Nat) : Int) - 1 = (j : Int) := by omega
      have c1 : ((j + m + 2 : Nat) : Int) - 1 = ((j + m + 1 : Nat) : Int) := by omega
      have c2 : ((j + m + 2 : Nat) : Int) - 2 = ((j + m : Nat) : Int) := by omega
      have b2 : ((m + 1 + 1 : Nat) : Int) - 2 = ((m : Nat) : Int) := by omega
      have a3 : j + (m + 1 + 1) = j + m + 2 := by omega
      have hVn : V < BB ^ (m + 2) := hhi.out
      have hwin := kn_window (n := m + 2) (j := j) hVn hb'.out
      rw [show m + 2 + 1 = m + 3 by omega] at hwin
      have hqlt : wv o j (m + 3) / V < 4294967296 := Nat.div_lt_of_lt_mul hwin
      have hVt := vp_top rb (n := m)
      have hUt := wv_top ro (j := j) (n := m)
      rw [hvb] at hVt
      have bu2 := ro.get (j + m + 2)
      have bu1 := ro.get (j + m + 1)
      have bu0 := ro.get (j + m)
      have bv1 := rb.get (m + 1)
      have bv0 := rb.get m
      obtain ⟨T, hT⟩ : ∃ T, T = o.getD (j + m + 2) 0 * 4294967296 + o.getD (j + m + 1) 0 := ⟨_, rfl⟩
      have hT2 : o.getD (j + m + 2) 0 * 4294967296 * 4294967296 + o.getD (j + m + 1) 0 * 4294967296 + o.getD (j + m) 0 = T * 4294967296 + o.getD (j + m) 0 := by rw [hT, Nat.add_mul]
      rw [hT2] at hUt
      have e1 := shl32 bu2
      have hTb : T < 18446744073709551616 := by omega
      clear hT2
      obtain ⟨Y, hY⟩ : ∃ Y, Y = o.getD (j + m + 2) 0 * 4294967296 := ⟨_, rfl⟩
      rw [← hY] at e1 hT
      have e2 : Y + o.getD (j + m + 1) 0 = T := hT.symm
      clear hY hT
      generalize hUU : wv o j (m + 3) = U at *
      have hin := kn_init (top := T) hv1 bu0 hVt.1 hUt.2
      have htop := kn_htop bv0 hVt.2 hUt.1 hwin
      obtain ⟨Pm, hPm⟩ : ∃ Pm, Pm = BB ^ m := ⟨_, rfl⟩
      rw [← hPm] at hVt hUt
      obtain ⟨v1, hv1e⟩ : ∃ v1, v1 = ob.getD (m + 1) 0 := ⟨_, rfl⟩
      rw [← hv1e] at hVt bv1 hin htop
      have hw1 : 1 ≤ v1 := by rw [hv1e]; exact hv1
      obtain ⟨v2, hv2e⟩ : ∃ v2, v2 = ob.getD m 0 := ⟨_, rfl⟩
      rw [← hv2e] at hVt bv0
      obtain ⟨u2, hu2e⟩ : ∃ u2, u2 = o.getD (j + m) 0 := ⟨_, rfl⟩
      rw [← hu2e] at hUt bu0
      have f1 : ob.getD (m + 1) 0 = v1 := hv1e.symm
      have f2 : ob.getD m 0 = v2 := hv2e.symm
      have f3 : o.getD (j + m) 0 = u2 := hu2e.symm
      have d1 : (T : Int).tdiv (v1 : Int) = ((T / v1 : Nat) : Int) := rfl
      have d2 : (T : Int).tmod (v1 : Int) = ((T % v1 : Nat) : Int) := rfl
      have d3 : T % v1 < v1 := Nat.mod_lt _ hw1
      have d4 : T / v1 < 18446744073709551616 := Nat.lt_of_le_of_lt (Nat.div_le_self _ _) hTb
      have d5 : T / v1 * v1 + T % v1 = T := by rw [Nat.mul_comm]; exact Nat.div_add_mod T v1
      replace hin := Hd.mk hin
      replace d5 := Hd.mk d5
      replace hVt := Hd.mk hVt
      replace hUt := Hd.mk hUt
      replace hwin := Hd.mk hwin
      replace hVn := Hd.mk hVn
      replace hvb := Hd.mk hvb
      replace hUU := Hd.mk hUU
      replace hqlt := Hd.mk hqlt
      generalize T / v1 = q0 at *
      generalize T % v1 = r0 at *
      clear hv1e hv2e hu2e hPm hv1
      simp (maxSteps := 4000000) (disch := omega) only [go_sem, ↓reduceIte, Nat.reduceAdd, Nat.reduceSub, Nat.reduceMul, Nat.reduceEqDiff, reduceCtorEq, Int.reduceAdd, Int.reduceLT, Int.reduceLE, Int.reduceToNat, Int.reduceNeg, Int.reduceSub, ← List.map_take, ← List.map_drop, wrap64, wrapu64, wrapu32, ← Int.natCast_add, ← Int.natCast_mul, cast_succ, wrapu32_nat, shr32, reps_wd, map_set_wd, List.length_set, zs_len, j1]
      refine W_drawn ?_
      simp (maxSteps := 4000000) (disch := omega) only [go_sem, ↓reduceIte, Nat.reduceAdd, Nat.reduceSub, Nat.reduceMul, Nat.reduceEqDiff, reduceCtorEq, Int.reduceAdd, Int.reduceLT, Int.reduceLE, Int.reduceToNat, Int.reduceNeg, Int.reduceSub, ← List.map_take, ← List.map_drop, wrap64, wrapu64, wrapu32, ← Int.natCast_add, ← Int.natCast_mul, cast_succ, wrapu32_nat, shr32, reps_wd, map_set_wd, List.length_set, zs_len, h2, ol, a3, c1, e1, e2]
      refine ⟨by rfl, ?_⟩
      refine W_drawn ?_
      simp (maxSteps := 4000000) (disch := omega) only [go_sem, ↓reduceIte, Nat.reduceAdd, Nat.reduceSub, Nat.reduceMul, Nat.reduceEqDiff, reduceCtorEq, Int.reduceAdd, Int.reduceLT, Int.reduceLE, Int.reduceToNat, Int.reduceNeg, Int.reduceSub, ← List.map_take, ← List.map_drop, wrap64, wrapu64, wrapu32, ← Int.natCast_add, ← Int.natCast_mul, cast_succ, wrapu32_nat, shr32, reps_wd, map_set_wd, List.length_set, zs_len, h3, obl, b1, f1, d1, d2]
      refine ⟨by rfl, ?_⟩
      refine W_mono (Q := fun e σ => e = .exit 4 ∧ ∃ (q : Nat), (∃ g : Nat → AV, σ.sl = [g 0, g 1, g 2, g 3, g 4, g 5, .int .i64 s, .ref 2 0 (m + 1 + L + 1 + 1), .ref 3 0 (m + 1 + 1), .int .i64 (m + 1 + 1 : Nat), .ref 4 0 (L + 1), .int .i64 j, g 12, .int .u64 q, g 14, g 15, g 16, g 17, g 18, g 19, g 20, g 21, g 22, g 23, g 24, g 25, g 26, g 27, g 28, g 29, g 30, g 31, g 32, g 33, g 34, g 35, g 36, g 37, g 38, g 39, g 40, g 41, g 42, g 43, g 44, g 45, g 46, g 47, g 48, g 49, g 50, g 51, g 52, g 53, g 54, g 55, g 56, g 57, g 58, g 59, g 60, g 61, g 62, g 63, g 64, g 65, g 66, g 67, g 68, g 69, g 70, g 71, g 72, g 73, g 74, g 75, g 76, g 77, g 78, g 79, g 80, g 81, g 82, g 83, g 84, g 85, g 86, g 87, g 88, g 89, g 90, g 91, g 92, g 93, g 94, g 95, g 96, g 97, g 98, g 99, g 100, g 101, g 102, g 103, g 104, g 105, g 106, g 107, g 108, g 109, g 110, g 111, g 112, g 113, g 114, g 115, g 116, g 117, g 118, g 119, g 120, g 121, g 122, g 123, g 124, g 125, g 126, g 127, g 128, g 129, g 130, g 131, g 132, g 133, g 134, g 135, g 136, g 137, g 138, g 139, g 140, g 141, g 142, g 143, g 144, g 145, g 146, g 147, g 148, g 149, g 150, g 151, g 152, g 153, g 154, g 155, g 156, g 157, g 158, g 159, g 160, g 161, g 162, g 163, g 164, g 165, g 166, g 167, g 168, g 169, g 170, g 171, g 172, g 173, g 174, g 175, g 176, g 177, g 178, g 179, g 180, g 181, g 182, g 183, g 184, g 185, g 186, g 187, g 188, g 189, g 190, g 191, g 192, g 193, g 194, g 195, g 196, g 197, g 198, g 199, g 200, g 201, g 202, g 203, g 204, g 205, g 206, g 207, g 208, g 209, g 210, g 211, g 212, g 213, g 214, g 215, g 216, g 217, g 218, g 219, g 220, g 221, g 222]) ∧ σ.h = H ∧ σ.nx = 5 ∧ q < 4294967296 ∧ Hd (q * V ≤ U + V) ∧ Hd (U < (q + 1) * V)) ?_ ?_
      · refine W_loopS (fun k sl H' n => ∃ (r : Nat), (∃ g : Nat → AV, sl = [g 0, g 1, g 2, g 3, g 4, g 5, .int .i64 s, .ref 2 0 (m + 1 + L + 1 + 1), .ref 3 0 (m + 1 + 1), .int .i64 (m + 1 + 1 : Nat), .ref 4 0 (L + 1), .int .i64 j, g 12, .int .u64 k, .int .u64 r, g 15, g 16, g 17, g 18, g 19, g 20, g 21, g 22, g 23, g 24, g 25, g 26, g 27, g 28, g 29, g 30, g 31, g 32, g 33, g 34, g 35, g 36, g 37, g 38, g 39, g 40, g 41, g 42, g 43, g 44, g 45, g 46, g 47, g 48, g 49, g 50, g 51, g 52, g 53, g 54, g 55, g 56, g 57, g 58, g 59, g 60, g 61, g 62, g 63, g 64, g 65, g 66, g 67, g 68, g 69, g 70, g 71, g 72, g 73, g 74, g 75, g 76, g 77, g 78, g 79, g 80, g 81, g 82, g 83, g 84, g 85, g 86, g 87, g 88, g 89, g 90, g 91, g 92, g 93, g 94, g 95, g 96, g 97, g 98, g 99, g 100, g 101, g 102, g 103, g 104, g 105, g 106, g 107, g 108, g 109, g 110, g 111, g 112, g 113, g 114, g 115, g 116, g 117, g 118, g 119, g 120, g 121, g 122, g 123, g 124, g 125, g 126, g 127, g 128, g 129, g 130, g 131, g 132, g 133, g 134, g 135, g 136, g 137, g 138, g 139, g 140, g 141, g 142, g 143, g 144, g 145, g 146, g 147, g 148, g 149, g 150, g 151, g 152, g 153, g 154, g 155, g 156, g 157, g 158, g 159, g 160, g 161, g 162, g 163, g 164, g 165, g 166, g 167, g 168, g 169, g 170, g 171, g 172, g 173, g 174, g 175, g 176, g 177, g 178, g 179, g 180, g 181, g 182, g 183, g 184, g 185, g 186, g 187, g 188, g 189, g 190, g 191, g 192, g 193, g 194, g 195, g 196, g 197, g 198, g 199, g 200, g 201, g 202, g 203, g 204, g 205, g 206, g 207, g 208, g 209, g 210, g 211, g 212, g 213, g 214, g 215, g 216, g 217, g 218, g 219, g 220, g 221, g 222]) ∧ H' = H ∧ n = 5 ∧
          k < 18446744073709551616 ∧ r < 4294967296 ∧ Hd (k * v1 + r = T) ∧ Hd (U < (k + 1) * V)) q0 ⟨r0, garb rfl, rfl, rfl, d4, by omega, d5, hin⟩ ?_
        clear d1 d2 d3 d4 d5 hin e1 e2
        rintro q _ _ _ ⟨r, ⟨g, rfl⟩, rfl, rfl, hq, hr, ht, hb⟩
        have g1 := shl32 hr
        obtain ⟨R, hR⟩ : ∃ R, R = r * 4294967296 := ⟨_, rfl⟩
        rw [← hR] at g1
        have hR1 : R ≤ 18446744069414584320 := by omega
        by_cases hq2 : 4294967296 ≤ q
        · have hlt := kn_dec ht.out hVt.out.1 hUt.out.2 hwin.out (.inl hq2)
          have g4 : (q : Int) - 1 = ((q - 1 : Nat) : Int) := by omega
          have ht2 : (q - 1) * v1 + (r + v1) = T := by
            have e := ht.out
            obtain ⟨k, rfl⟩ : ∃ k, q = k + 1 := ⟨q - 1, by omega⟩
            rw [Nat.add_mul] at e; simp only [Nat.add_sub_cancel]; omega
          have hb2 : U < (q - 1 + 1) * V := by rw [show q - 1 + 1 = q by omega]; exact hlt
          clear hR g1
          by_cases hr2 : 4294967296 ≤ r + v1
          · have hq1 : q - 1 < 4294967296 := by
              have h1 : (q - 1) * v1 < 4294967296 * v1 := by rw [Nat.add_mul] at htop; rw [Nat.mul_comm 4294967296]; omega
              exact Nat.lt_of_mul_lt_mul_right h1
            have hend := kn_end ht2 hw1 hVt.out.1 hVt.out.2 hUt.out.1 hq1 bv0 (.inr hr2)
            replace hb2 := Hd.mk hb2
            replace hend := Hd.mk hend
            clear ht ht2 hlt htop
            simp (maxSteps := 4000000) (disch := omega) only [go_sem, ↓reduceIte, Nat.reduceAdd, Nat.reduceSub, Nat.reduceMul, Nat.reduceEqDiff, reduceCtorEq, Int.reduceAdd, Int.reduceLT, Int.reduceLE, Int.reduceToNat, Int.reduceNeg, Int.reduceSub, ← List.map_take, ← List.map_drop, wrap64, wrapu64, wrapu32, ← Int.natCast_add, ← Int.natCast_mul, cast_succ, wrapu32_nat, shr32, reps_wd, map_set_wd, List.length_set, zs_len]
            refine W_drawn ?_
            simp (maxSteps := 4000000) (disch := omega) only [go_sem, ↓reduceIte, Nat.reduceAdd, Nat.reduceSub, Nat.reduceMul, Nat.reduceEqDiff, reduceCtorEq, Int.reduceAdd, Int.reduceLT, Int.reduceLE, Int.reduceToNat, Int.reduceNeg, Int.reduceSub, ← List.map_take, ← List.map_drop, wrap64, wrapu64, wrapu32, ← Int.natCast_add, ← Int.natCast_mul, cast_succ, wrapu32_nat, shr32, reps_wd, map_set_wd, List.length_set, zs_len]
            refine ⟨by rfl, ?_⟩
            simp (maxSteps := 4000000) (disch := omega) only [go_sem, ↓reduceIte, Nat.reduceAdd, Nat.reduceSub, Nat.reduceMul, Nat.reduceEqDiff, reduceCtorEq, Int.reduceAdd, Int.reduceLT, Int.reduceLE, Int.reduceToNat, Int.reduceNeg, Int.reduceSub, ← List.map_take, ← List.map_drop, wrap64, wrapu64, wrapu32, ← Int.natCast_add, ← Int.natCast_mul, cast_succ, wrapu32_nat, shr32, reps_wd, map_set_wd, List.length_set, zs_len, h3, obl, b1, f1, g4]
            exact ⟨q - 1, garb rfl, hq1, hend, hb2⟩
          · replace hb2 := Hd.mk hb2
            replace ht2 := Hd.mk ht2
            clear ht hlt htop
            simp (maxSteps := 4000000) (disch := omega) only [go_sem, ↓reduceIte, Nat.reduceAdd, Nat.reduceSub, Nat.reduceMul, Nat.reduceEqDiff, reduceCtorEq, Int.reduceAdd, Int.reduceLT, Int.reduceLE, Int.reduceToNat, Int.reduceNeg, Int.reduceSub, ← List.map_take, ← List.map_drop, wrap64, wrapu64, wrapu32, ← Int.natCast_add, ← Int.natCast_mul, cast_succ, wrapu32_nat, shr32, reps_wd, map_set_wd, List.length_set, zs_len]
            refine W_drawn ?_
            simp (maxSteps := 4000000) (disch := omega) only [go_sem, ↓reduceIte, Nat.reduceAdd, Nat.reduceSub, Nat.reduceMul, Nat.reduceEqDiff, reduceCtorEq, Int.reduceAdd, Int.reduceLT, Int.reduceLE, Int.reduceToNat, Int.reduceNeg, Int.reduceSub, ← List.map_take, ← List.map_drop, wrap64, wrapu64, wrapu32, ← Int.natCast_add, ← Int.natCast_mul, cast_succ, wrapu32_nat, shr32, reps_wd, map_set_wd, List.length_set, zs_len]
            refine ⟨by rfl, ?_⟩
            simp (maxSteps := 4000000) (disch := omega) only [go_sem, ↓reduceIte, Nat.reduceAdd, Nat.reduceSub, Nat.reduceMul, Nat.reduceEqDiff, reduceCtorEq, Int.reduceAdd, Int.reduceLT, Int.reduceLE, Int.reduceToNat, Int.reduceNeg, Int.reduceSub, ← List.map_take, ← List.map_drop, wrap64, wrapu64, wrapu32, ← Int.natCast_add, ← Int.natCast_mul, cast_succ, wrapu32_nat, shr32, reps_wd, map_set_wd, List.length_set, zs_len, h3, obl, b1, f1, g4]
            exact ⟨q - 1, by omega, r + v1, garb rfl, by omega, by omega, ht2, hb2⟩
        · obtain ⟨Z, hZ⟩ : ∃ Z, Z = q * v2 := ⟨_, rfl⟩
          have hZ2 : q * v2 = Z := hZ.symm
          have hZb := mul_word (show q < 4294967296 by omega) bv0
          rw [hZ2] at hZb
          by_cases hc : R + u2 < Z
          · have hlt := kn_dec ht.out hVt.out.1 hUt.out.2 hwin.out (.inr (by rw [← hR, ← hZ]; exact hc))
            have hq0 : q ≠ 0 := fun e => by rw [e, Nat.zero_mul] at hlt; omega
            have g4 : (q : Int) - 1 = ((q - 1 : Nat) : Int) := by omega
            have ht2 : (q - 1) * v1 + (r + v1) = T := by
              have e := ht.out
              obtain ⟨k, rfl⟩ : ∃ k, q = k + 1 := ⟨q - 1, by omega⟩
              rw [Nat.add_mul] at e; simp only [Nat.add_sub_cancel]; omega
            have hb2 : U < (q - 1 + 1) * V := by rw [show q - 1 + 1 = q by omega]; exact hlt
            clear hR hZ
            by_cases hr2 : 4294967296 ≤ r + v1
            · have hend := kn_end ht2 hw1 hVt.out.1 hVt.out.2 hUt.out.1 (by omega) bv0 (.inr hr2)
              replace hb2 := Hd.mk hb2
              replace hend := Hd.mk hend
              clear ht ht2 hlt htop
              simp (maxSteps := 4000000) (disch := omega) only [go_sem, ↓reduceIte, Nat.reduceAdd, Nat.reduceSub, Nat.reduceMul, Nat.reduceEqDiff, reduceCtorEq, Int.reduceAdd, Int.reduceLT, Int.reduceLE, Int.reduceToNat, Int.reduceNeg, Int.reduceSub, ← List.map_take, ← List.map_drop, wrap64, wrapu64, wrapu32, ← Int.natCast_add, ← Int.natCast_mul, cast_succ, wrapu32_nat, shr32, reps_wd, map_set_wd, List.length_set, zs_len]
              refine W_drawn ?_
              simp (maxSteps := 4000000) (disch := omega) only [go_sem, ↓reduceIte, Nat.reduceAdd, Nat.reduceSub, Nat.reduceMul, Nat.reduceEqDiff, reduceCtorEq, Int.reduceAdd, Int.reduceLT, Int.reduceLE, Int.reduceToNat, Int.reduceNeg, Int.reduceSub, ← List.map_take, ← List.map_drop, wrap64, wrapu64, wrapu32, ← Int.natCast_add, ← Int.natCast_mul, cast_succ, wrapu32_nat, shr32, reps_wd, map_set_wd, List.length_set, zs_len, h2, h3, ol, obl, b2, a3, c2, f2, f3, g1, hZ2]
              refine ⟨by rfl, ?_⟩
              simp (maxSteps := 4000000) (disch := omega) only [go_sem, ↓reduceIte, Nat.reduceAdd, Nat.reduceSub, Nat.reduceMul, Nat.reduceEqDiff, reduceCtorEq, Int.reduceAdd, Int.reduceLT, Int.reduceLE, Int.reduceToNat, Int.reduceNeg, Int.reduceSub, ← List.map_take, ← List.map_drop, wrap64, wrapu64, wrapu32, ← Int.natCast_add, ← Int.natCast_mul, cast_succ, wrapu32_nat, shr32, reps_wd, map_set_wd, List.length_set, zs_len, h3, obl, b1, f1, g4]
              exact ⟨q - 1, garb rfl, by omega, hend, hb2⟩
            · replace hb2 := Hd.mk hb2
              replace ht2 := Hd.mk ht2
              clear ht hlt htop
              simp (maxSteps := 4000000) (disch := omega) only [go_sem, ↓reduceIte, Nat.reduceAdd, Nat.reduceSub, Nat.reduceMul, Nat.reduceEqDiff, reduceCtorEq, Int.reduceAdd, Int.reduceLT, Int.reduceLE, Int.reduceToNat, Int.reduceNeg, Int.reduceSub, ← List.map_take, ← List.map_drop, wrap64, wrapu64, wrapu32, ← Int.natCast_add, ← Int.natCast_mul, cast_succ, wrapu32_nat, shr32, reps_wd, map_set_wd, List.length_set, zs_len]
              refine W_drawn ?_
              simp (maxSteps := 4000000) (disch := omega) only [go_sem, ↓reduceIte, Nat.reduceAdd, Nat.reduceSub, Nat.reduceMul, Nat.reduceEqDiff, reduceCtorEq, Int.reduceAdd, Int.reduceLT, Int.reduceLE, Int.reduceToNat, Int.reduceNeg, Int.reduceSub, ← List.map_take, ← List.map_drop, wrap64, wrapu64, wrapu32, ← Int.natCast_add, ← Int.natCast_mul, cast_succ, wrapu32_nat, shr32, reps_wd, map_set_wd, List.length_set, zs_len, h2, h3, ol, obl, b2, a3, c2, f2, f3, g1, hZ2]
              refine ⟨by rfl, ?_⟩
              simp (maxSteps := 4000000) (disch := omega) only [go_sem, ↓reduceIte, Nat.reduceAdd, Nat.reduceSub, Nat.reduceMul, Nat.reduceEqDiff, reduceCtorEq, Int.reduceAdd, Int.reduceLT, Int.reduceLE, Int.reduceToNat, Int.reduceNeg, Int.reduceSub, ← List.map_take, ← List.map_drop, wrap64, wrapu64, wrapu32, ← Int.natCast_add, ← Int.natCast_mul, cast_succ, wrapu32_nat, shr32, reps_wd, map_set_wd, List.length_set, zs_len, h3, obl, b1, f1, g4]
              exact ⟨q - 1, by omega, r + v1, garb rfl, by omega, by omega, ht2, hb2⟩
          · have hend := kn_end ht.out hw1 hVt.out.1 hVt.out.2 hUt.out.1 (by omega) bv0 (.inl (by rw [← hR, ← hZ]; omega))
            replace hend := Hd.mk hend
            clear ht htop hR hZ
            simp (maxSteps := 4000000) (disch := omega) only [go_sem, ↓reduceIte, Nat.reduceAdd, Nat.reduceSub, Nat.reduceMul, Nat.reduceEqDiff, reduceCtorEq, Int.reduceAdd, Int.reduceLT, Int.reduceLE, Int.reduceToNat, Int.reduceNeg, Int.reduceSub, ← List.map_take, ← List.map_drop, wrap64, wrapu64, wrapu32, ← Int.natCast_add, ← Int.natCast_mul, cast_succ, wrapu32_nat, shr32, reps_wd, map_set_wd, List.length_set, zs_len]
            refine W_drawn ?_
            simp (maxSteps := 4000000) (disch := omega) only [go_sem, ↓reduceIte, Nat.reduceAdd, Nat.reduceSub, Nat.reduceMul, Nat.reduceEqDiff, reduceCtorEq, Int.reduceAdd, Int.reduceLT, Int.reduceLE, Int.reduceToNat, Int.reduceNeg, Int.reduceSub, ← List.map_take, ← List.map_drop, wrap64, wrapu64, wrapu32, ← Int.natCast_add, ← Int.natCast_mul, cast_succ, wrapu32_nat, shr32, reps_wd, map_set_wd, List.length_set, zs_len, h2, h3, ol, obl, b2, a3, c2, f2, f3, g1, hZ2]
            refine ⟨by rfl, ?_⟩
            exact ⟨q, garb rfl, by omega, hend, hb⟩
      · clear d1 d2 d3 d4 d5 hin e1 e2 f1 f2 f3 htop hUt hVt bu2 bu1 bu0 bv1 bv0 hTb hw1 c1 c2 b2
        rintro e ⟨sl, H', nx'⟩ ⟨rfl, q, ⟨g, hs⟩, hh, hnn, hq, hle, hgt⟩
        dsimp only at hs hh hnn
        subst hs; subst H'; subst nx'
        simp (maxSteps := 4000000) (disch := omega) only [go_sem, ↓reduceIte, Nat.reduceAdd, Nat.reduceSub, Nat.reduceMul, Nat.reduceEqDiff, reduceCtorEq, Int.reduceAdd, Int.reduceLT, Int.reduceLE, Int.reduceToNat, Int.reduceNeg, Int.reduceSub, ← List.map_take, ← List.map_drop, wrap64, wrapu64, wrapu32, ← Int.natCast_add, ← Int.natCast_mul, cast_succ, wrapu32_nat, shr32, reps_wd, map_set_wd, List.length_set, zs_len]
        refine W_loopS (fun k sl H' n => ∃ (i c bo : Nat) (p : List Nat), (∃ g : Nat → AV, sl = [g 0, g 1, g 2, g 3, g 4, g 5, .int .i64 s, .ref 2 0 (m + 1 + L + 1 + 1), .ref 3 0 (m + 1 + 1), .int .i64 (m + 1 + 1 : Nat), .ref 4 0 (L + 1), .int .i64 j, g 12, .int .u64 q, g 14, .int .u64 c, .int .u64 bo, .int .i64 i, g 18, g 19, g 20, g 21, g 22, g 23, g 24, g 25, g 26, g 27, g 28, g 29, g 30, g 31, g 32, g 33, g 34, g 35, g 36, g 37, g 38, g 39, g 40, g 41, g 42, g 43, g 44, g 45, g 46, g 47, g 48, g 49, g 50, g 51, g 52, g 53, g 54, g 55, g 56, g 57, g 58, g 59, g 60, g 61, g 62, g 63, g 64, g 65, g 66, g 67, g 68, g 69, g 70, g 71, g 72, g 73, g 74, g 75, g 76, g 77, g 78, g 79, g 80, g 81, g 82, g 83, g 84, g 85, g 86, g 87, g 88, g 89, g 90, g 91, g 92, g 93, g 94, g 95, g 96, g 97, g 98, g 99, g 100, g 101, g 102, g 103, g 104, g 105, g 106, g 107, g 108, g 109, g 110, g 111, g 112, g 113, g 114, g 115, g 116, g 117, g 118, g 119, g 120, g 121, g 122, g 123, g 124, g 125, g 126, g 127, g 128, g 129, g 130, g 131, g 132, g 133, g 134, g 135, g 136, g 137, g 138, g 139, g 140, g 141, g 142, g 143, g 144, g 145, g 146, g 147, g 148, g 149, g 150, g 151, g 152, g 153, g 154, g 155, g 156, g 157, g 158, g 159, g 160, g 161, g 162, g 163, g 164, g 165, g 166, g 167, g 168, g 169, g 170, g 171, g 172, g 173, g 174, g 175, g 176, g 177, g 178, g 179, g 180, g 181, g 182, g 183, g 184, g 185, g 186, g 187, g 188, g 189, g 190, g 191, g 192, g 193, g 194, g 195, g 196, g 197, g 198, g 199, g 200, g 201, g 202, g 203, g 204, g 205, g 206, g 207, g 208, g 209, g 210, g 211, g 212, g 213, g 214, g 215, g 216, g 217, g 218, g 219, g 220, g 221, g 222]) ∧ n = 5 ∧
          H' 2 = some ⟨p.map wd, false, 1, false⟩ ∧ H' 3 = some ⟨ob.map wd, false, 1, false⟩ ∧ H' 4 = some ⟨out.map wd, false, 1, false⟩ ∧ p.length = m + 1 + L + 1 + 1 ∧ InR p ∧ i + k = m + 3 ∧ c < 4294967296 ∧ bo ≤ 1 ∧ (i = m + 3 → c = 0) ∧
          Hd (wv p j i + q * vp ob i = wv o j i + (c + bo) * BB ^ i) ∧ Hd (∀ t, t < j ∨ j + i ≤ t → p.getD t 0 = o.getD t 0)) (m + 3)
          ⟨0, 0, 0, o, garb rfl, rfl, h2, h3, h4, ol, ro, by omega, by omega, by omega, by omega, ⟨by simp [wv, vp]⟩, ⟨fun _ _ => rfl⟩⟩ ?_
        clear h2 h3 h4
        rintro k _ H' _ ⟨i, c, bo, p, ⟨g, rfl⟩, rfl, h2, h3, h4, hp, rp, hi, hc, hbo, hc0, hvv, hzz⟩
        by_cases hk3 : k = 0
        · obtain rfl : i = m + 3 := by omega
          obtain rfl := hc0 rfl
          have hlast : wv p j (m + 3) + q * V = U + bo * BB ^ (m + 3) := by
            have h := hvv.out
            rw [vp_succ0 htz, hvb.out, hUU.out, Nat.zero_add] at h
            exact h
          have stz : ∀ t, t < j ∨ j + (m + 3) ≤ t → p.getD t 0 = o.getD t 0 := hzz.out
          by_cases hbit : bo = 0
          · have hfin2 := kn_fin0' hlast hbit hgt.out
            have hout := kn_outer (n := m + 2) (p := p) ro hVn.out (show j < out.length by omega) hv.out hb'.out (hz.out j (by omega)) (by rw [show m + 2 + 1 = m + 3 by omega, hUU.out]; exact hfin2.2) (fun t ht => stz t (by omega))
            rw [show m + 2 + 1 = m + 3 by omega, hUU.out, ← hfin2.1] at hout
            have hz2 : ∀ i, i < j → (out.set j q).getD i 0 = 0 := fun i hi => by rw [lget_set_ne (by omega)]; exact hz.out i (by omega)
            have hqq : q % 4294967296 = q := Nat.mod_eq_of_lt hq
            replace hout := Hd.mk hout
            clear hvv hzz hlast hfin2 hv hb' hz hUU hgt hle hwin
            subst hbit
            simp (maxSteps := 4000000) (disch := omega) only [go_sem, ↓reduceIte, Nat.reduceAdd, Nat.reduceSub, Nat.reduceMul, Nat.reduceEqDiff, reduceCtorEq, Int.reduceAdd, Int.reduceLT, Int.reduceLE, Int.reduceToNat, Int.reduceNeg, Int.reduceSub, ← List.map_take, ← List.map_drop, wrap64, wrapu64, wrapu32, ← Int.natCast_add, ← Int.natCast_mul, cast_succ, wrapu32_nat, shr32, reps_wd, map_set_wd, List.length_set, zs_len, h4, outl, hqq]
            exact ⟨j, by omega, p, out.set j q, garb rfl, h2, h3, rfl, hp, by rw [List.length_set, outl], rp, rout.set hq, by omega, ⟨hout.out.1⟩, ⟨hout.out.2⟩, ⟨hz2⟩⟩
          · have hbit1 : bo = 1 := by omega
            replace hlast := kn_one hlast hbit1
            have hlt : U < q * V := by
              have h1 := wv_lt rp j (m + 3)
              omega
            have hq0 : q ≠ 0 := fun e => by rw [e, Nat.zero_mul] at hlt; omega
            have g4 : (q : Int) - 1 = ((q - 1 : Nat) : Int) := by omega
            replace hlast := Hd.mk hlast
            replace hlt := Hd.mk hlt
            clear hvv hzz
            subst hbit1
            simp (maxSteps := 4000000) (disch := omega) only [go_sem, ↓reduceIte, Nat.reduceAdd, Nat.reduceSub, Nat.reduceMul, Nat.reduceEqDiff, reduceCtorEq, Int.reduceAdd, Int.reduceLT, Int.reduceLE, Int.reduceToNat, Int.reduceNeg, Int.reduceSub, ← List.map_take, ← List.map_drop, wrap64, wrapu64, wrapu32, ← Int.natCast_add, ← Int.natCast_mul, cast_succ, wrapu32_nat, shr32, reps_wd, map_set_wd, List.length_set, zs_len, g4]
            refine W_loopS (fun k sl H2 n => ∃ (i c : Nat) (p2 : List Nat), (∃ g : Nat → AV, sl = [g 0, g 1, g 2, g 3, g 4, g 5, .int .i64 s, .ref 2 0 (m + 1 + L + 1 + 1), .ref 3 0 (m + 1 + 1), .int .i64 (m + 1 + 1 : Nat), .ref 4 0 (L + 1), .int .i64 j, g 12, .int .u64 (q - 1 : Nat), g 14, g 15, g 16, g 17, g 18, g 19, .int .u64 c, .int .i64 i, g 22, g 23, g 24, g 25, g 26, g 27, g 28, g 29, g 30, g 31, g 32, g 33, g 34, g 35, g 36, g 37, g 38, g 39, g 40, g 41, g 42, g 43, g 44, g 45, g 46, g 47, g 48, g 49, g 50, g 51, g 52, g 53, g 54, g 55, g 56, g 57, g 58, g 59, g 60, g 61, g 62, g 63, g 64, g 65, g 66, g 67, g 68, g 69, g 70, g 71, g 72, g 73, g 74, g 75, g 76, g 77, g 78, g 79, g 80, g 81, g 82, g 83, g 84, g 85, g 86, g 87, g 88, g 89, g 90, g 91, g 92, g 93, g 94, g 95, g 96, g 97, g 98, g 99, g 100, g 101, g 102, g 103, g 104, g 105, g 106, g 107, g 108, g 109, g 110, g 111, g 112, g 113, g 114, g 115, g 116, g 117, g 118, g 119, g 120, g 121, g 122, g 123, g 124, g 125, g 126, g 127, g 128, g 129, g 130, g 131, g 132, g 133, g 134, g 135, g 136, g 137, g 138, g 139, g 140, g 141, g 142, g 143, g 144, g 145, g 146, g 147, g 148, g 149, g 150, g 151, g 152, g 153, g 154, g 155, g 156, g 157, g 158, g 159, g 160, g 161, g 162, g 163, g 164, g 165, g 166, g 167, g 168, g 169, g 170, g 171, g 172, g 173, g 174, g 175, g 176, g 177, g 178, g 179, g 180, g 181, g 182, g 183, g 184, g 185, g 186, g 187, g 188, g 189, g 190, g 191, g 192, g 193, g 194, g 195, g 196, g 197, g 198, g 199, g 200, g 201, g 202, g 203, g 204, g 205, g 206, g 207, g 208, g 209, g 210, g 211, g 212, g 213, g 214, g 215, g 216, g 217, g 218, g 219, g 220, g 221, g 222]) ∧ n = 5 ∧
              H2 2 = some ⟨p2.map wd, false, 1, false⟩ ∧ H2 3 = some ⟨ob.map wd, false, 1, false⟩ ∧ H2 4 = some ⟨out.map wd, false, 1, false⟩ ∧ p2.length = m + 1 + L + 1 + 1 ∧ InR p2 ∧ i + k = m + 3 ∧ c ≤ 1 ∧
              Hd (wv p2 j i + c * BB ^ i = wv p j i + vp ob i) ∧ Hd (∀ t, t < j ∨ j + i ≤ t → p2.getD t 0 = p.getD t 0)) (m + 3)
              ⟨0, 0, p, garb rfl, rfl, h2, h3, h4, hp, rp, by omega, by omega, ⟨by simp [wv, vp]⟩, ⟨fun _ _ => rfl⟩⟩ ?_
            clear h2 h3 h4 hc
            rintro k _ H2 _ ⟨i, c, p2, ⟨g, rfl⟩, rfl, h2, h3, h4, hp2, rp2, hi, hc, hvv, hzz⟩
            by_cases hk4 : k = 0
            · obtain rfl : i = m + 3 := by omega
              have hadd : wv p2 j (m + 3) + c * BB ^ (m + 3) = wv p j (m + 3) + V := by
                have h := hvv.out
                rw [vp_succ0 htz, hvb.out] at h
                exact h
              have hback := kn_back (U := U) (V := V) (q := q) (n := m + 3) hlast.out hadd (wv_lt rp2 _ _) hle.out (Nat.le_trans (Nat.le_of_lt hVn.out) (Nat.pow_le_pow_right (by decide) (by omega))) hlt.out
              have hres := kn_fin1 hlt.out hle.out hback
              have hout := kn_outer (n := m + 2) (p := p2) ro hVn.out (show j < out.length by omega) hv.out hb'.out (hz.out j (by omega)) (by rw [show m + 2 + 1 = m + 3 by omega, hUU.out]; exact hres.2.1) (fun t ht => by rw [hzz.out t (by omega), stz t (by omega)])
              rw [show m + 2 + 1 = m + 3 by omega, hUU.out, ← hres.1] at hout
              have hz2 : ∀ i, i < j → (out.set j (q - 1)).getD i 0 = 0 := fun i hi => by rw [lget_set_ne (by omega)]; exact hz.out i (by omega)
              have hqq : (q - 1) % 4294967296 = q - 1 := Nat.mod_eq_of_lt (by omega)
              replace hout := Hd.mk hout
              clear hvv hzz hlast hlt hres hback hadd hv hb' hz hUU hgt hle hwin
              simp (maxSteps := 4000000) (disch := omega) only [go_sem, ↓reduceIte, Nat.reduceAdd, Nat.reduceSub, Nat.reduceMul, Nat.reduceEqDiff, reduceCtorEq, Int.reduceAdd, Int.reduceLT, Int.reduceLE, Int.reduceToNat, Int.reduceNeg, Int.reduceSub, ← List.map_take, ← List.map_drop, wrap64, wrapu64, wrapu32, ← Int.natCast_add, ← Int.natCast_mul, cast_succ, wrapu32_nat, shr32, reps_wd, map_set_wd, List.length_set, zs_len, h4, outl, hqq]
              exact ⟨j, by omega, p2, out.set j (q - 1), garb rfl, h2, h3, rfl, hp2, by rw [List.length_set, outl], rp2, rout.set (by show _ < 4294967296; omega), by omega, ⟨hout.out.1⟩, ⟨hout.out.2⟩, ⟨hz2⟩⟩
            · have hx := rp2.get (j + i)
              have hy := rb.get i
              have hz0 := hzz.out (j + i) (.inr (by omega))
              by_cases hi2 : i < m + 2
              · obtain ⟨S, hs⟩ : ∃ S, S = c + p2.getD (j + i) 0 + ob.getD i 0 := ⟨_, rfl⟩
                have hs2 : c + p2.getD (j + i) 0 + ob.getD i 0 = S := hs.symm
                have stp := as_step (o := p) (p := p2) (v := ob) (j := j) (i := i) (c := c) (s := S) (by omega) hvv.out (by rw [hs, hz0])
                have stz2 : ∀ t, t < j ∨ j + (i + 1) ≤ t → (p2.set (j + i) (S % 4294967296)).getD t 0 = p.getD t 0 := fun t ht => by
                  rw [lget_set_ne (by omega)]; exact hzz.out t (by omega)
                have hsb : S / 4294967296 ≤ 1 := by omega
                have hsb2 : S < 18446744073709551616 := by omega
                have gl := and_low hsb2
                have gm : S % 4294967296 % 4294967296 = S % 4294967296 := Nat.mod_mod _ _
                clear hvv hzz hlast hlt hv hb' hz hUU hgt hle hwin hs hz0
                simp (maxSteps := 4000000) (disch := omega) only [go_sem, ↓reduceIte, Nat.reduceAdd, Nat.reduceSub, Nat.reduceMul, Nat.reduceEqDiff, reduceCtorEq, Int.reduceAdd, Int.reduceLT, Int.reduceLE, Int.reduceToNat, Int.reduceNeg, Int.reduceSub, ← List.map_take, ← List.map_drop, wrap64, wrapu64, wrapu32, ← Int.natCast_add, ← Int.natCast_mul, cast_succ, wrapu32_nat, shr32, reps_wd, map_set_wd, List.length_set, zs_len, h2, h3, hp2, obl, hs2, gl, gm]
                exact ⟨k - 1, by omega, i + 1, S / 4294967296, p2.set (j + i) (S % 4294967296), garb rfl, rfl, h4, by rw [List.length_set, hp2], rp2.set (Nat.mod_lt _ (by decide)), by omega, hsb, ⟨stp⟩, ⟨stz2⟩⟩
              · obtain rfl : i = m + 2 := by omega
                obtain ⟨S, hs⟩ : ∃ S, S = c + p2.getD (j + (m + 2)) 0 := ⟨_, rfl⟩
                have hs2 : c + p2.getD (j + (m + 2)) 0 = S := hs.symm
                have stp := as_step (o := p) (p := p2) (v := ob) (j := j) (i := m + 2) (c := c) (s := S) (by omega) hvv.out (by rw [htz]; omega)
                have stz2 : ∀ t, t < j ∨ j + (m + 2 + 1) ≤ t → (p2.set (j + (m + 2)) (S % 4294967296)).getD t 0 = p.getD t 0 := fun t ht => by
                  rw [lget_set_ne (by omega)]; exact hzz.out t (by omega)
                have hsb : S / 4294967296 ≤ 1 := by omega
                have hsb2 : S < 18446744073709551616 := by omega
                have gl := and_low hsb2
                have gm : S % 4294967296 % 4294967296 = S % 4294967296 := Nat.mod_mod _ _
                clear hvv hzz hlast hlt hv hb' hz hUU hgt hle hwin hs hz0
                simp (maxSteps := 4000000) (disch := omega) only [go_sem, ↓reduceIte, Nat.reduceAdd, Nat.reduceSub, Nat.reduceMul, Nat.reduceEqDiff, reduceCtorEq, Int.reduceAdd, Int.reduceLT, Int.reduceLE, Int.reduceToNat, Int.reduceNeg, Int.reduceSub, ← List.map_take, ← List.map_drop, wrap64, wrapu64, wrapu32, ← Int.natCast_add, ← Int.natCast_mul, cast_succ, wrapu32_nat, shr32, reps_wd, map_set_wd, List.length_set, zs_len, h2, h3, hp2, obl, hs2, gl, gm]
                exact ⟨k - 1, by omega, m + 2 + 1, S / 4294967296, p2.set (j + (m + 2)) (S % 4294967296), garb rfl, rfl, h4, by rw [List.length_set, hp2], rp2.set (Nat.mod_lt _ (by decide)), by omega, hsb, ⟨stp⟩, ⟨stz2⟩⟩
        · have hx := rp.get (j + i)
          have hy := rb.get i
          have hz0 := hzz.out (j + i) (.inr (by omega))
          have hPb := mul_word hq hy
          obtain ⟨M, hM⟩ : ∃ M, M = q * ob.getD i 0 := ⟨_, rfl⟩
          have hM2 : q * ob.getD i 0 = M := hM.symm
          rw [hM2] at hPb
          obtain ⟨N, hN⟩ : ∃ N, N = c + M := ⟨_, rfl⟩
          have hN2 : c + M = N := hN.symm
          have hNb : N < 18446744073709551616 := by omega
          have gl := and_low hNb
          obtain ⟨Nl, hNl⟩ : ∃ Nl, Nl = N % 4294967296 := ⟨_, rfl⟩
          have hNl2 : Nl < 4294967296 := by omega
          rw [← hNl] at gl
          obtain ⟨Z, hZ⟩ : ∃ Z, Z = p.getD (j + i) 0 + 4294967296 - Nl - bo := ⟨_, rfl⟩
          have gz1 : ((p.getD (j + i) 0 + 4294967296 : Nat) : Int) - (Nl : Int) = ((p.getD (j + i) 0 + 4294967296 - Nl : Nat) : Int) := by omega
          have gz2 : ((p.getD (j + i) 0 + 4294967296 - Nl : Nat) : Int) - (bo : Int) = (Z : Int) := by omega
          have gp : ((p.getD (j + i) 0 : Nat) : Int) + 4294967296 = ((p.getD (j + i) 0 + 4294967296 : Nat) : Int) := by omega
          have hZb : Z < 18446744073709551616 := by omega
          have gzl := and_low hZb
          have gm : Z % 4294967296 % 4294967296 = Z % 4294967296 := Nat.mod_mod _ _
          have hZ1 : Z / 4294967296 ≤ 1 := by omega
          have gb : (1 : Int) - ((Z / 4294967296 : Nat) : Int) = ((1 - Z / 4294967296 : Nat) : Int) := by omega
          have hw : Z % 4294967296 + Nl + bo = p.getD (j + i) 0 + (1 - Z / 4294967296) * 4294967296 := by omega
          have stp := ms_step (o := o) (p := p) (v := ob) (j := j) (i := i) (q := q) (c0 := c) (b0 := bo) (b1 := 1 - Z / 4294967296) (w := Z % 4294967296) (x := N) (by omega) hvv.out (by rw [hN, hM]; exact Nat.add_comm _ _) (by rw [← hNl, hw, hz0])
          have stz : ∀ t, t < j ∨ j + (i + 1) ≤ t → (p.set (j + i) (Z % 4294967296)).getD t 0 = o.getD t 0 := fun t ht => by
            rw [lget_set_ne (by omega)]; exact hzz.out t (by omega)
          have hcb : N / 4294967296 < 4294967296 := by omega
          have hc0' : i + 1 = m + 3 → N / 4294967296 = 0 := fun h => by
            have : i = m + 2 := by omega
            rw [this, htz, Nat.mul_zero] at hM
            omega
          replace hw := Hd.mk hw
          replace hM := Hd.mk hM
          replace hN := Hd.mk hN
          replace hZ := Hd.mk hZ
          replace hNl := Hd.mk hNl
          by_cases hi2 : i < m + 2
          · clear hvv hzz hv hb' hz hUU hgt hle hwin hz0
            simp (maxSteps := 4000000) (disch := omega) only [go_sem, ↓reduceIte, Nat.reduceAdd, Nat.reduceSub, Nat.reduceMul, Nat.reduceEqDiff, reduceCtorEq, Int.reduceAdd, Int.reduceLT, Int.reduceLE, Int.reduceToNat, Int.reduceNeg, Int.reduceSub, ← List.map_take, ← List.map_drop, wrap64, wrapu64, wrapu32, ← Int.natCast_add, ← Int.natCast_mul, cast_succ, wrapu32_nat, shr32, reps_wd, map_set_wd, List.length_set, zs_len, h2, h3, hp, obl, hM2, hN2, gl, gp, gz1, gz2, gzl, gm, gb]
            exact ⟨k - 1, by omega, i + 1, N / 4294967296, 1 - Z / 4294967296, p.set (j + i) (Z % 4294967296), garb rfl, rfl, h4, by rw [List.length_set, hp], rp.set (Nat.mod_lt _ (by decide)), by omega, hcb, by omega, hc0', ⟨stp⟩, ⟨stz⟩⟩
          · have hM0 : M = 0 := by
              have : i = m + 2 := by omega
              have h := hM.out
              rwa [this, htz, Nat.mul_zero] at h
            have hNc : N = c := by have := hN.out; omega
            subst hNc
            clear hvv hzz hv hb' hz hUU hgt hle hwin hz0 hN2
            simp (maxSteps := 4000000) (disch := omega) only [go_sem, ↓reduceIte, Nat.reduceAdd, Nat.reduceSub, Nat.reduceMul, Nat.reduceEqDiff, reduceCtorEq, Int.reduceAdd, Int.reduceLT, Int.reduceLE, Int.reduceToNat, Int.reduceNeg, Int.reduceSub, ← List.map_take, ← List.map_drop, wrap64, wrapu64, wrapu32, ← Int.natCast_add, ← Int.natCast_mul, cast_succ, wrapu32_nat, shr32, reps_wd, map_set_wd, List.length_set, zs_len, h2, h3, hp, obl, gl, gp, gz1, gz2, gzl, gm, gb]
            exact ⟨k - 1, by omega, i + 1, N / 4294967296, 1 - Z / 4294967296, p.set (j + i) (Z % 4294967296), garb rfl, rfl, h4, by rw [List.length_set, hp], rp.set (Nat.mod_lt _ (by decide)), by omega, hcb, by omega, hc0', ⟨stp⟩, ⟨stz⟩⟩
end Go.Proofs.YtnpomadbaanpkaaGreat

/- Walks of the reference of chapter 1: Div. (Own work of this repo.) -/
namespace Go.Proofs.YtnpomadbaanpkaaGreat
open Vm
set_option maxRecDepth 100000

theorem order_lt {x y : Int} (h : (dg x).length < (dg y).length) : x.natAbs < y.natAbs := dig_cmp h
set_option maxHeartbeats 4000000 in
theorem rDiv_spec (ma : Bool) (x : Int) (mb : Bool) (y : Int) (hx : (dg x).length < 2 ^ 30) (hy : (dg y).length < 2 ^ 30) (hy0 : y ≠ 0) :
    ∃ m : Bool × Bool, denP E 55 [I ma x, I mb y] = some (.ret (.tup [I m.1 (x / y), I m.2 (x % y)])) ∧ (m.1 = true → x / y = 0) ∧ (m.2 = true → x % y = 0) := by
  refine denP_ex E55 rfl (by simp [AV.pureL, AV.pure, pure_wd]) ?_
  have hl := dg_pos.2 hy0
  have ho := rorder_spec ma x mb y (by omega) (by omega)
  have zq : (x.natAbs / y.natAbs) ≤ x.natAbs := Nat.div_le_self _ _
  have zr : (x.natAbs % y.natAbs) < y.natAbs := Nat.mod_lt _ (by omega)
  have lq2 : (dig (x.natAbs / y.natAbs)).length < 2 ^ 30 := Nat.lt_of_le_of_lt (dig_mono zq) hx
  have lr2 : (dig (x.natAbs % y.natAbs)).length < 2 ^ 30 := Nat.lt_of_le_of_lt (dig_mono (Nat.le_of_lt zr)) hy
  have hcm : cmpN x.natAbs y.natAbs < 0 ↔ x.natAbs < y.natAbs := by unfold cmpN; split <;> (try split) <;> omega
  obtain ⟨q, hq⟩ : ∃ q, q = x.natAbs / y.natAbs := ⟨_, rfl⟩
  obtain ⟨r, hr⟩ : ∃ r, r = x.natAbs % y.natAbs := ⟨_, rfl⟩
  generalize hcv : cmpN x.natAbs y.natAbs = cv at *
  simp (maxSteps := 4000000) (disch := omega) only [go_sem, ↓reduceIte, Nat.reduceAdd, Nat.reduceSub, Nat.reduceMul, Nat.reduceEqDiff, reduceCtorEq, Int.reduceAdd, Int.reduceLT, Int.reduceLE, Int.reduceToNat, Int.reduceNeg, Int.reduceSub, ← List.map_take, ← List.map_drop, wrap64, wrapu64, wrapu32, ← Int.natCast_add, ← Int.natCast_mul, cast_succ, wrapu32_nat, shr32, reps_wd, map_set_wd, List.length_set, zs_len, Tryz.f55, ho]
  refine condK_mono (Q := fun e σ => e = .norm ∧ ∃ N, (∃ g : Nat → AV, σ.sl = [g 0, g 1, .ptr 0 0, .ptr 1 0, .ptr 2 0, .ptr 3 0, .ptr 4 0, .ptr 5 0, g 8, g 9, g 10, g 11, g 12, g 13, g 14, g 15, g 16, g 17, g 18, g 19, g 20, g 21, g 22, g 23, g 24, g 25, g 26, g 27, g 28, g 29, g 30, g 31, g 32, g 33, g 34, g 35, g 36, g 37, g 38, g 39, g 40, g 41, g 42, g 43, g 44, g 45, g 46, g 47, g 48, g 49, g 50, g 51, g 52, g 53, g 54, g 55, g 56, g 57, g 58, g 59, g 60, g 61, g 62, g 63, g 64, g 65, g 66, g 67, g 68, g 69, g 70, g 71, g 72, g 73]) ∧ σ.nx = N ∧
    σ.h 0 = some ⟨[.bool (ng x), .lst ma ((dg x).map wd)], true, 2, false⟩ ∧ σ.h 1 = some ⟨[.bool (ng y), .lst mb ((dg y).map wd)], true, 2, false⟩ ∧ σ.h 2 = some ⟨[.bool false, .lst true []], true, 2, false⟩ ∧ σ.h 3 = some ⟨[.bool false, .lst true []], true, 2, false⟩ ∧
    σ.h 4 = some ⟨[.bool false, .lst (decide ((q : Int) = 0)) ((dig q).map wd)], true, 2, false⟩ ∧ σ.h 5 = some ⟨[.bool false, .lst (decide ((r : Int) = 0)) ((dig r).map wd)], true, 2, false⟩) ?_ ?_
  · rintro e ⟨sl, H, nx⟩ ⟨rfl, N, ⟨g, hs⟩, rfl, h0, h1, h2, h3, h4, h5⟩
    dsimp only at hs h0 h1 h2 h3 h4 h5
    subst hs
    clear ho hcm hcv
    have hZ := rZero_spec (decide ((r : Int) = 0)) (r : Int)
    simp only [I, ng_nat, dg_nat] at hZ
    by_cases hc : x < 0 ∧ x.natAbs % y.natAbs ≠ 0
    · have hn : ng x = true := ng_true.2 hc.1
      have he := ediv_nat' x y hy0 hc.1 hc.2
      have hr0 : ((r : Nat) : Int) ≠ 0 := by rw [hr]; have := hc.2; omega
      have o1 := rOf_spec 1 (by decide) (by decide)
      have p1 := rAdd_spec (decide ((q : Int) = 0)) (q : Int) false 1 (by rw [dg_nat, hq]; omega) (by have := dg_small (z := 1) (by decide); omega)
      have p2 := rAbs_spec mb y (by omega)
      have p3 := rSub_spec (decide ((y.natAbs : Int) = 0)) (y.natAbs : Int) (decide ((r : Int) = 0)) (r : Int) (by rw [dg_abs]; omega) (by rw [dg_nat, hr]; omega)
      rw [show ((y.natAbs : Nat) : Int) - (r : Int) = x % y by rw [← he.2, hr]; omega] at p3
      have lq3 : (dg ((q : Int) + 1)).length < 2 ^ 38 := by
        have := dg_add (q : Int) 1
        have h7 := dg_small (z := 1) (by decide)
        rw [dg_nat, hq] at this
        rw [hq]; omega
      have p4 := rNeg_spec (decide ((q : Int) + 1 = 0)) ((q : Int) + 1) lq3
      have hq2 : x / y = if (ng x != ng y) = true then -((q : Int) + 1) else (q : Int) + 1 := by
        rw [← he.1, sg, ← hq]; push_cast; rfl
      have hr2 : ng (x % y) = false := ng_false.2 (Int.emod_nonneg x hy0)
      rw [hn] at hq2 h0
      clear he hq hr zq zr lq2 lr2 hc lq3
      simp only [RM, I, ng_nat, dg_nat, hr2] at p1 p2 p3 p4 o1
      rw [decide_eq_false hr0] at *
      rw [decide_eq_false (show ((y.natAbs : Nat) : Int) ≠ 0 by omega)] at p2 p3
      obtain ⟨w, hw⟩ : ∃ w : Int, w = (q : Int) + 1 := ⟨_, rfl⟩
      rw [← hw] at p1 p4 hq2
      clear hw
      cases hy1 : ng y with
      | true =>
        rw [hy1] at hq2 p2
        simp only [bne_self_eq_false, Bool.false_eq_true, if_false] at hq2
        rw [hq2]
        simp (maxSteps := 4000000) (disch := omega) only [go_sem, ↓reduceIte, Nat.reduceAdd, Nat.reduceSub, Nat.reduceMul, Nat.reduceEqDiff, reduceCtorEq, Int.reduceAdd, Int.reduceLT, Int.reduceLE, Int.reduceToNat, Int.reduceNeg, Int.reduceSub, ← List.map_take, ← List.map_drop, wrap64, wrapu64, wrapu32, ← Int.natCast_add, ← Int.natCast_mul, cast_succ, wrapu32_nat, shr32, reps_wd, map_set_wd, List.length_set, zs_len, h0, h1, h2, h3, h4, h5, hZ, hy1]
        refine W_drawn ?_
        simp (maxSteps := 4000000) (disch := omega) only [go_sem, ↓reduceIte, Nat.reduceAdd, Nat.reduceSub, Nat.reduceMul, Nat.reduceEqDiff, reduceCtorEq, Int.reduceAdd, Int.reduceLT, Int.reduceLE, Int.reduceToNat, Int.reduceNeg, Int.reduceSub, ← List.map_take, ← List.map_drop, wrap64, wrapu64, wrapu32, ← Int.natCast_add, ← Int.natCast_mul, cast_succ, wrapu32_nat, shr32, reps_wd, map_set_wd, List.length_set, zs_len, h0, h1, h2, h3, h4, h5, o1, p1, p2, p3, hy1]
        refine ⟨by rfl, ?_⟩
        refine W_drawn ?_
        simp (maxSteps := 4000000) (disch := omega) only [go_sem, ↓reduceIte, Nat.reduceAdd, Nat.reduceSub, Nat.reduceMul, Nat.reduceEqDiff, reduceCtorEq, Int.reduceAdd, Int.reduceLT, Int.reduceLE, Int.reduceToNat, Int.reduceNeg, Int.reduceSub, ← List.map_take, ← List.map_drop, wrap64, wrapu64, wrapu32, ← Int.natCast_add, ← Int.natCast_mul, cast_succ, wrapu32_nat, shr32, reps_wd, map_set_wd, List.length_set, zs_len, h0, h1, h2, h3]
        exact ⟨by rfl, (decide (w = 0), decide (x % y = 0)), by simp only [I, hr2], by simp, by simp⟩
      | false =>
        rw [hy1] at hq2 p2
        simp only [Bool.bne_false, if_true] at hq2
        rw [hq2]
        simp (maxSteps := 4000000) (disch := omega) only [go_sem, ↓reduceIte, Nat.reduceAdd, Nat.reduceSub, Nat.reduceMul, Nat.reduceEqDiff, reduceCtorEq, Int.reduceAdd, Int.reduceLT, Int.reduceLE, Int.reduceToNat, Int.reduceNeg, Int.reduceSub, ← List.map_take, ← List.map_drop, wrap64, wrapu64, wrapu32, ← Int.natCast_add, ← Int.natCast_mul, cast_succ, wrapu32_nat, shr32, reps_wd, map_set_wd, List.length_set, zs_len, h0, h1, h2, h3, h4, h5, hZ, hy1]
        refine W_drawn ?_
        simp (maxSteps := 4000000) (disch := omega) only [go_sem, ↓reduceIte, Nat.reduceAdd, Nat.reduceSub, Nat.reduceMul, Nat.reduceEqDiff, reduceCtorEq, Int.reduceAdd, Int.reduceLT, Int.reduceLE, Int.reduceToNat, Int.reduceNeg, Int.reduceSub, ← List.map_take, ← List.map_drop, wrap64, wrapu64, wrapu32, ← Int.natCast_add, ← Int.natCast_mul, cast_succ, wrapu32_nat, shr32, reps_wd, map_set_wd, List.length_set, zs_len, h0, h1, h2, h3, h4, h5, o1, p1, p2, p3, p4, hy1]
        refine ⟨by rfl, ?_⟩
        refine W_drawn ?_
        simp (maxSteps := 4000000) (disch := omega) only [go_sem, ↓reduceIte, Nat.reduceAdd, Nat.reduceSub, Nat.reduceMul, Nat.reduceEqDiff, reduceCtorEq, Int.reduceAdd, Int.reduceLT, Int.reduceLE, Int.reduceToNat, Int.reduceNeg, Int.reduceSub, ← List.map_take, ← List.map_drop, wrap64, wrapu64, wrapu32, ← Int.natCast_add, ← Int.natCast_mul, cast_succ, wrapu32_nat, shr32, reps_wd, map_set_wd, List.length_set, zs_len, h0, h1, h2, h3]
        exact ⟨by rfl, (decide (-w = 0), decide (x % y = 0)), by simp only [I, hr2], by simp, by simp⟩
    · have he := ediv_nat x y hy0 hc
      have hr2 : ((r : Nat) : Int) = x % y := by rw [hr]; exact he.2
      have hq2 : x / y = if (ng x != ng y) = true then -(q : Int) else (q : Int) := by rw [← he.1, sg, ← hq]
      have p4 := rNeg_spec (decide ((q : Int) = 0)) (q : Int) (by rw [dg_nat, hq]; omega)
      have hcond : (ng x && !decide ((r : Int) = 0)) = false := by
        rw [Bool.eq_false_iff]
        intro h
        rw [Bool.and_eq_true, Bool.not_eq_true', decide_eq_false_iff_not] at h
        exact hc ⟨ng_true.1 h.1, fun e => h.2 (by rw [hr, e]; rfl)⟩
      clear he hq hr zq zr lq2 lr2 hc
      rw [← hr2]
      simp only [RM, I, ng_nat, dg_nat] at p4
      have fin : ∀ (fq : Bool) (v : Int), fq = decide (v = 0) → x / y = v → (fq = true → x / y = 0) := fun fq v h1 h2 h3 => by rw [h2]; rw [h1] at h3; exact of_decide_eq_true h3
      cases hx1 : ng x with
      | true =>
        rw [hx1] at hq2 h0 hcond
        rw [Bool.true_and] at hcond
        cases hy1 : ng y with
        | true =>
          rw [hy1] at hq2
          simp only [bne_self_eq_false, Bool.false_eq_true, if_false] at hq2
          rw [hq2]
          simp (maxSteps := 4000000) (disch := omega) only [go_sem, ↓reduceIte, Nat.reduceAdd, Nat.reduceSub, Nat.reduceMul, Nat.reduceEqDiff, reduceCtorEq, Int.reduceAdd, Int.reduceLT, Int.reduceLE, Int.reduceToNat, Int.reduceNeg, Int.reduceSub, ← List.map_take, ← List.map_drop, wrap64, wrapu64, wrapu32, ← Int.natCast_add, ← Int.natCast_mul, cast_succ, wrapu32_nat, shr32, reps_wd, map_set_wd, List.length_set, zs_len, h0, h1, h2, h3, h4, h5, hZ, hy1, hcond]
          refine W_drawn ?_
          simp (maxSteps := 4000000) (disch := omega) only [go_sem, ↓reduceIte, Nat.reduceAdd, Nat.reduceSub, Nat.reduceMul, Nat.reduceEqDiff, reduceCtorEq, Int.reduceAdd, Int.reduceLT, Int.reduceLE, Int.reduceToNat, Int.reduceNeg, Int.reduceSub, ← List.map_take, ← List.map_drop, wrap64, wrapu64, wrapu32, ← Int.natCast_add, ← Int.natCast_mul, cast_succ, wrapu32_nat, shr32, reps_wd, map_set_wd, List.length_set, zs_len, h0, h1, h2, h3, h4, h5]
          exact ⟨by rfl, (decide ((q : Int) = 0), decide ((r : Int) = 0)), by simp only [I, ng_nat, dg_nat], by simp, by simp⟩
        | false =>
          rw [hy1] at hq2
          simp only [Bool.bne_false, if_true] at hq2
          rw [hq2]
          simp (maxSteps := 4000000) (disch := omega) only [go_sem, ↓reduceIte, Nat.reduceAdd, Nat.reduceSub, Nat.reduceMul, Nat.reduceEqDiff, reduceCtorEq, Int.reduceAdd, Int.reduceLT, Int.reduceLE, Int.reduceToNat, Int.reduceNeg, Int.reduceSub, ← List.map_take, ← List.map_drop, wrap64, wrapu64, wrapu32, ← Int.natCast_add, ← Int.natCast_mul, cast_succ, wrapu32_nat, shr32, reps_wd, map_set_wd, List.length_set, zs_len, h0, h1, h2, h3, h4, h5, hZ, hy1, hcond, p4]
          refine W_drawn ?_
          simp (maxSteps := 4000000) (disch := omega) only [go_sem, ↓reduceIte, Nat.reduceAdd, Nat.reduceSub, Nat.reduceMul, Nat.reduceEqDiff, reduceCtorEq, Int.reduceAdd, Int.reduceLT, Int.reduceLE, Int.reduceToNat, Int.reduceNeg, Int.reduceSub, ← List.map_take, ← List.map_drop, wrap64, wrapu64, wrapu32, ← Int.natCast_add, ← Int.natCast_mul, cast_succ, wrapu32_nat, shr32, reps_wd, map_set_wd, List.length_set, zs_len, h0, h1, h2, h3, h4, h5]
          exact ⟨by rfl, (decide (-(q : Int) = 0), decide ((r : Int) = 0)), by simp only [I, ng_nat, dg_nat], by simp, by simp⟩
      | false =>
        rw [hx1] at hq2 h0
        cases hy1 : ng y with
        | true =>
          rw [hy1] at hq2
          simp only [Bool.false_bne, if_true] at hq2
          rw [hq2]
          simp (maxSteps := 4000000) (disch := omega) only [go_sem, ↓reduceIte, Nat.reduceAdd, Nat.reduceSub, Nat.reduceMul, Nat.reduceEqDiff, reduceCtorEq, Int.reduceAdd, Int.reduceLT, Int.reduceLE, Int.reduceToNat, Int.reduceNeg, Int.reduceSub, ← List.map_take, ← List.map_drop, wrap64, wrapu64, wrapu32, ← Int.natCast_add, ← Int.natCast_mul, cast_succ, wrapu32_nat, shr32, reps_wd, map_set_wd, List.length_set, zs_len, h0, h1, h2, h3, h4, h5, hy1, p4]
          refine W_drawn ?_
          simp (maxSteps := 4000000) (disch := omega) only [go_sem, ↓reduceIte, Nat.reduceAdd, Nat.reduceSub, Nat.reduceMul, Nat.reduceEqDiff, reduceCtorEq, Int.reduceAdd, Int.reduceLT, Int.reduceLE, Int.reduceToNat, Int.reduceNeg, Int.reduceSub, ← List.map_take, ← List.map_drop, wrap64, wrapu64, wrapu32, ← Int.natCast_add, ← Int.natCast_mul, cast_succ, wrapu32_nat, shr32, reps_wd, map_set_wd, List.length_set, zs_len, h0, h1, h2, h3, h4, h5]
          exact ⟨by rfl, (decide (-(q : Int) = 0), decide ((r : Int) = 0)), by simp only [I, ng_nat, dg_nat], by simp, by simp⟩
        | false =>
          rw [hy1] at hq2
          simp only [bne_self_eq_false, Bool.false_eq_true, if_false] at hq2
          rw [hq2]
          simp (maxSteps := 4000000) (disch := omega) only [go_sem, ↓reduceIte, Nat.reduceAdd, Nat.reduceSub, Nat.reduceMul, Nat.reduceEqDiff, reduceCtorEq, Int.reduceAdd, Int.reduceLT, Int.reduceLE, Int.reduceToNat, Int.reduceNeg, Int.reduceSub, ← List.map_take, ← List.map_drop, wrap64, wrapu64, wrapu32, ← Int.natCast_add, ← Int.natCast_mul, cast_succ, wrapu32_nat, shr32, reps_wd, map_set_wd, List.length_set, zs_len, h0, h1, h2, h3, h4, h5, hy1]
          refine W_drawn ?_
          simp (maxSteps := 4000000) (disch := omega) only [go_sem, ↓reduceIte, Nat.reduceAdd, Nat.reduceSub, Nat.reduceMul, Nat.reduceEqDiff, reduceCtorEq, Int.reduceAdd, Int.reduceLT, Int.reduceLE, Int.reduceToNat, Int.reduceNeg, Int.reduceSub, ← List.map_take, ← List.map_drop, wrap64, wrapu64, wrapu32, ← Int.natCast_add, ← Int.natCast_mul, cast_succ, wrapu32_nat, shr32, reps_wd, map_set_wd, List.length_set, zs_len, h0, h1, h2, h3, h4, h5]
          exact ⟨by rfl, (decide ((q : Int) = 0), decide ((r : Int) = 0)), by simp only [I, ng_nat, dg_nat], by simp, by simp⟩
  · by_cases hlt : x.natAbs < y.natAbs
    · have hc1 := hcm.2 hlt
      have p1 := rAbs_spec ma x (by omega)
      have hq0 : q = 0 := by rw [hq, Nat.div_eq_of_lt hlt]
      have hr0 : r = x.natAbs := by rw [hr, Nat.mod_eq_of_lt hlt]
      rw [hq0, hr0]
      clear hq hr zq zr lq2 lr2 hcm hcv hq0 hr0
      simp only [RM, I, ng_nat, dg_nat] at p1
      simp (maxSteps := 4000000) (disch := omega) only [go_sem, ↓reduceIte, Nat.reduceAdd, Nat.reduceSub, Nat.reduceMul, Nat.reduceEqDiff, reduceCtorEq, Int.reduceAdd, Int.reduceLT, Int.reduceLE, Int.reduceToNat, Int.reduceNeg, Int.reduceSub, ← List.map_take, ← List.map_drop, wrap64, wrapu64, wrapu32, ← Int.natCast_add, ← Int.natCast_mul, cast_succ, wrapu32_nat, shr32, reps_wd, map_set_wd, List.length_set, zs_len, ho, p1]
      exact ⟨_, garb rfl, rfl, by rw [dig_zero]; rfl⟩
    · have hc1 : ¬ cv < 0 := fun h => hlt (hcm.1 h)
      clear hcm hcv
      by_cases hy1 : (dg y).length = 1
      · have hy2 : (dg y).getD 0 0 = y.natAbs := by
          have h := val_dg y
          rw [val, hy1, vp, vp] at h; simpa using h
        have hyb : y.natAbs < 4294967296 := by rw [← hy2]; exact (dg_inR y).get 0
        obtain ⟨so, s1, ros, sol, sov⟩ := rShort_spec ma (dg x) y.natAbs (dg_inR x) (by omega) (by omega) hyb
        rw [val_dg] at s1 sov
        have m1 := rMake_z (neg := false) (nl := false) (w := so) (z := (q : Int)) ros (by omega) (by rw [sov, hq]; rfl)
        have m2 := rMake_z (neg := false) (nl := false) (w := [r]) (z := (r : Int)) (fun z hz => by simp at hz; subst hz; show _ < 4294967296; omega) (by simp) (by rw [val_cons, val_nil, Nat.mul_zero, Nat.add_zero]; rfl)
        rw [← hr] at s1
        simp only [RM, I, ng_nat, dg_nat, List.map_cons, List.map_nil, wd] at m1 m2
        clear hq hr zq zr lq2 lr2 sov
        simp (maxSteps := 4000000) (disch := omega) only [go_sem, ↓reduceIte, Nat.reduceAdd, Nat.reduceSub, Nat.reduceMul, Nat.reduceEqDiff, reduceCtorEq, Int.reduceAdd, Int.reduceLT, Int.reduceLE, Int.reduceToNat, Int.reduceNeg, Int.reduceSub, ← List.map_take, ← List.map_drop, wrap64, wrapu64, wrapu32, ← Int.natCast_add, ← Int.natCast_mul, cast_succ, wrapu32_nat, shr32, reps_wd, map_set_wd, List.length_set, zs_len, ho]
        refine W_drawn ?_
        simp (maxSteps := 4000000) (disch := omega) only [go_sem, ↓reduceIte, Nat.reduceAdd, Nat.reduceSub, Nat.reduceMul, Nat.reduceEqDiff, reduceCtorEq, Int.reduceAdd, Int.reduceLT, Int.reduceLE, Int.reduceToNat, Int.reduceNeg, Int.reduceSub, ← List.map_take, ← List.map_drop, wrap64, wrapu64, wrapu32, ← Int.natCast_add, ← Int.natCast_mul, cast_succ, wrapu32_nat, shr32, reps_wd, map_set_wd, List.length_set, zs_len, hy1, hy2, s1]
        refine ⟨by rfl, ?_⟩
        simp (maxSteps := 4000000) (disch := omega) only [go_sem, ↓reduceIte, Nat.reduceAdd, Nat.reduceSub, Nat.reduceMul, Nat.reduceEqDiff, reduceCtorEq, Int.reduceAdd, Int.reduceLT, Int.reduceLE, Int.reduceToNat, Int.reduceNeg, Int.reduceSub, ← List.map_take, ← List.map_drop, wrap64, wrapu64, wrapu32, ← Int.natCast_add, ← Int.natCast_mul, cast_succ, wrapu32_nat, shr32, reps_wd, map_set_wd, List.length_set, zs_len, m1, m2, reps, fillAll, refP, elems, List.headD]
        exact ⟨_, garb rfl, rfl⟩
      · obtain ⟨m, hm⟩ : ∃ m, (dg y).length = m + 1 + 1 := ⟨(dg y).length - 2, by omega⟩
        obtain ⟨z, l1, rz, lz, vz⟩ := rLong_spec ma (dg x) mb (dg y) (dg_norm x) (dg_norm y) m hm (dig_mono (by omega)) (by omega)
        rw [val_dg, val_dg] at l1 vz
        rw [← hr] at l1
        have m1 := rMake_z (neg := false) (nl := false) (w := z.1) (z := (q : Int)) rz (by omega) (by rw [vz, hq]; rfl)
        have m2 := rMake_z (neg := false) (nl := z.2) (w := dig r) (z := (r : Int)) (dig_inR r) (by rw [hr]; omega) (by rw [val_dig]; rfl)
        simp only [RM, I, ng_nat, dg_nat] at m1 m2
        clear hq hr zq zr lq2 lr2 vz
        simp (maxSteps := 4000000) (disch := omega) only [go_sem, ↓reduceIte, Nat.reduceAdd, Nat.reduceSub, Nat.reduceMul, Nat.reduceEqDiff, reduceCtorEq, Int.reduceAdd, Int.reduceLT, Int.reduceLE, Int.reduceToNat, Int.reduceNeg, Int.reduceSub, ← List.map_take, ← List.map_drop, wrap64, wrapu64, wrapu32, ← Int.natCast_add, ← Int.natCast_mul, cast_succ, wrapu32_nat, shr32, reps_wd, map_set_wd, List.length_set, zs_len, ho, hy1, l1, m1, m2]
        exact ⟨_, garb rfl, rfl⟩
end Go.Proofs.YtnpomadbaanpkaaGreat

/- Walks: the reference's sums of products. (Own work of this repo.) -/
namespace Go.Proofs.YtnpomadbaanpkaaGreat
open Vm
set_option maxRecDepth 10000

theorem dz_len {a b : Nat → Int} : ∀ n, (∀ i, i < n → (dg (a i)).length ≤ 1000000 ∧ (dg (b i)).length ≤ 1000000) → (dg (dz a b n)).length ≤ 2000000 + n
  | 0, _ => by show (dg 0).length ≤ _; rw [dg_zero]; simp
  | n + 1, h => by
    have h1 := dz_len n fun i hi => h i (by omega)
    have h2 := h n (by omega)
    have h3 := dg_mul (a n) (b n)
    have h4 := dg_add (dz a b n) (a n * b n)
    show (dg (dz a b n + a n * b n)).length ≤ _
    omega
theorem NumL.len {L : List Raw} (h : NumL L) {i : Nat} (hi : i < L.length) : (dg (zg L i)).length ≤ 1000000 := by
  have := h.get hi
  unfold zg
  rw [this.1.2.1]; exact this.2
set_option maxHeartbeats 1000000 in
theorem rDot_spec (na : Bool) (A : List Raw) (nb : Bool) (B : List Raw) (hA : NumL A) (hB : NumL B) (hl : A.length ≤ B.length) (hAl : A.length ≤ 1000) :
    denP E 18 [lraw na A, lraw nb B] = some (.ret (RM (dz (zg A) (zg B) A.length))) := by
  refine denP_eq E18 rfl (by simp [AV.pureL, AV.pure, pure_ivr]) ?_
  simp (maxSteps := 4000000) only [go_sem, ↓reduceIte, Nat.reduceAdd, Nat.reduceSub, Nat.reduceMul, Nat.reduceEqDiff, reduceCtorEq, Int.reduceAdd, Int.reduceLT, Int.reduceLE, Int.reduceToNat, Int.reduceNeg, Int.reduceSub, ← List.map_take, ← List.map_drop, ne_eq, Nat.reduceLeDiff, Nat.reduceLT, Nat.zero_le, Nat.le_refl, wrap64, wrapu64, wrapu32, ← Int.natCast_add, ← Int.natCast_mul, cast_succ, wrapu32_nat, shr32, reps_wd, map_set_wd, List.length_set, zs_len, Tryz.f18, places, fillAll]
  refine W_loopS (fun k sl h nx => ∃ (i : Nat), (∃ g : Nat → AV, sl = [lraw na A, lraw nb B, g 2, g 3, .ptr 0 0, .ptr 1 0, .int .i64 (i : Int), g 7, g 8, g 9, g 10, g 11, g 12, g 13, g 14, g 15, g 16, g 17, g 18, g 19, g 20, g 21, g 22, g 23, g 24, g 25]) ∧ i + k = A.length ∧ h 0 = some ⟨[.bool false, .lst true []], true, 2, false⟩ ∧ h 1 = some ⟨[.bool (ng (dz (zg A) (zg B) i)), .lst (decide (dz (zg A) (zg B) i = 0)) ((dg (dz (zg A) (zg B) i)).map wd)], true, 2, false⟩ ∧ 2 ≤ nx) A.length ⟨0, garb rfl, by omega, ?_, ?_, Nat.le_refl _⟩ ?_
  · simp only [upd_apply, ↓reduceIte, Nat.reduceEqDiff, if_pos]
  · rw [show dz (zg A) (zg B) 0 = 0 from rfl, ng_zero, dg_zero]; simp only [upd_apply, ↓reduceIte, Nat.reduceEqDiff, if_pos]; rfl
  rintro k _ h nx ⟨i, ⟨g, rfl⟩, hk, e0, e1, hnx⟩
  by_cases hi : i = A.length
  · have z1 : ((i : Int) < (A.length : Int)) = False := eq_false (by omega)
    rw [hi] at e1
    generalize dz (zg A) (zg B) A.length = s at *
    simp (maxSteps := 4000000) only [go_sem, ↓reduceIte, Nat.reduceAdd, Nat.reduceSub, Nat.reduceMul, Nat.reduceEqDiff, reduceCtorEq, Int.reduceAdd, Int.reduceLT, Int.reduceLE, Int.reduceToNat, Int.reduceNeg, Int.reduceSub, ← List.map_take, ← List.map_drop, ne_eq, Nat.reduceLeDiff, Nat.reduceLT, Nat.zero_le, Nat.le_refl, wrap64, wrapu64, wrapu32, ← Int.natCast_add, ← Int.natCast_mul, cast_succ, wrapu32_nat, shr32, reps_wd, map_set_wd, List.length_set, zs_len, z1, e0, e1]
  · have z1 : ((i : Int) < (A.length : Int)) = True := eq_true (by omega)
    have z0 : ((0 : Int) ≤ (i : Int)) = True := eq_true (by omega)
    have zb : ((i : Int) < (B.length : Int)) = True := eq_true (by omega)
    have hga := get_ivr (L := A) (i := i) (by omega)
    have hgb := get_ivr (L := B) (i := i) (by omega)
    obtain ⟨a1, a2⟩ := hA.get (show i < A.length by omega)
    obtain ⟨b1, b2⟩ := hB.get (show i < B.length by omega)
    rw [← a1.2.1, ← a1.2.2] at hga
    rw [← b1.2.1, ← b1.2.2] at hgb
    have la := hA.len (show i < A.length by omega)
    have lb := hB.len (show i < B.length by omega)
    have ls := dz_len (a := zg A) (b := zg B) i fun j hj => ⟨hA.len (by omega), hB.len (by omega)⟩
    have lm := dg_mul (zg A i) (zg B i)
    have hst : dz (zg A) (zg B) (i + 1) = dz (zg A) (zg B) i + zg A i * zg B i := rfl
    have hml : (A.map ivr).length = A.length := List.length_map _
    have hmlb : (B.map ivr).length = B.length := List.length_map _
    have w1 : IntKind.i64.wrap ((i + 1 : Nat) : Int) = ((i + 1 : Nat) : Int) := wrap64 (by omega) (by omega)
    have hfin : ∀ (h' : Heap) (n' : Nat) (sl : List AV), (∃ g : Nat → AV, sl = [lraw na A, lraw nb B, g 2, g 3, .ptr 0 0, .ptr 1 0, .int .i64 ((i + 1 : Nat) : Int), g 7, g 8, g 9, g 10, g 11, g 12, g 13, g 14, g 15, g 16, g 17, g 18, g 19, g 20, g 21, g 22, g 23, g 24, g 25]) → h' 0 = some ⟨[.bool false, .lst true []], true, 2, false⟩ → h' 1 = some ⟨[.bool (ng (dz (zg A) (zg B) (i + 1))), .lst (decide (dz (zg A) (zg B) (i + 1) = 0)) ((dg (dz (zg A) (zg B) (i + 1))).map wd)], true, 2, false⟩ → 2 ≤ n' →
        ∃ k', k' < k ∧ ∃ (i : Nat), (∃ g : Nat → AV, sl = [lraw na A, lraw nb B, g 2, g 3, .ptr 0 0, .ptr 1 0, .int .i64 (i : Int), g 7, g 8, g 9, g 10, g 11, g 12, g 13, g 14, g 15, g 16, g 17, g 18, g 19, g 20, g 21, g 22, g 23, g 24, g 25]) ∧ i + k' = A.length ∧ h' 0 = some ⟨[.bool false, .lst true []], true, 2, false⟩ ∧ h' 1 = some ⟨[.bool (ng (dz (zg A) (zg B) i)), .lst (decide (dz (zg A) (zg B) i = 0)) ((dg (dz (zg A) (zg B) i)).map wd)], true, 2, false⟩ ∧ 2 ≤ n' := fun h' n' sl c0 c1 c2 c3 => ⟨k - 1, by omega, i + 1, c0, by omega, c1, c2, c3⟩
    generalize hIQ : (fun (k : Nat) (σ : St) => ∃ (i : Nat), (∃ g : Nat → AV, σ.sl = [lraw na A, lraw nb B, g 2, g 3, .ptr 0 0, .ptr 1 0, .int .i64 (i : Int), g 7, g 8, g 9, g 10, g 11, g 12, g 13, g 14, g 15, g 16, g 17, g 18, g 19, g 20, g 21, g 22, g 23, g 24, g 25]) ∧ i + k = A.length ∧ σ.h 0 = some ⟨[.bool false, .lst true []], true, 2, false⟩ ∧ σ.h 1 = some ⟨[.bool (ng (dz (zg A) (zg B) i)), .lst (decide (dz (zg A) (zg B) i = 0)) ((dg (dz (zg A) (zg B) i)).map wd)], true, 2, false⟩ ∧ 2 ≤ σ.nx) = IQ
    rw [hst] at hfin
    have m1 := rMul_spec (A.getD i default).2.1 (zg A i) (B.getD i default).2.1 (zg B i) (by omega) (by omega)
    have s1 := rAdd_spec (decide (dz (zg A) (zg B) i = 0)) (dz (zg A) (zg B) i) (decide (zg A i * zg B i = 0)) (zg A i * zg B i) (by omega) (by omega)
    simp only [RM] at m1 s1
    have ea : zv (A.getD i default) = zg A i := rfl
    have eb : zv (B.getD i default) = zg B i := rfl
    rw [ea] at hga
    rw [eb] at hgb
    clear hst ls lm la lb a1 a2 b1 b2 ea eb
    generalize dz (zg A) (zg B) i = s at *
    generalize zg A i = x at *
    generalize zg B i = y at *
    generalize x * y = xy at *
    generalize s + xy = s2 at *
    generalize decide (xy = 0) = f1 at *
    generalize decide (s = 0) = f2 at *
    generalize decide (s2 = 0) = f3 at *
    generalize (A.getD i default).2.1 = fa at *
    generalize (B.getD i default).2.1 = fb at *
    simp (maxSteps := 4000000) only [go_sem, ↓reduceIte, Nat.reduceAdd, Nat.reduceSub, Nat.reduceMul, Nat.reduceEqDiff, reduceCtorEq, Int.reduceAdd, Int.reduceLT, Int.reduceLE, Int.reduceToNat, Int.reduceNeg, Int.reduceSub, ← List.map_take, ← List.map_drop, ne_eq, Nat.reduceLeDiff, Nat.reduceLT, Nat.zero_le, Nat.le_refl, wrap64, wrapu64, wrapu32, ← Int.natCast_add, ← Int.natCast_mul, cast_succ, wrapu32_nat, shr32, reps_wd, map_set_wd, List.length_set, zs_len, z1]
    refine W_drawn ?_
    simp (maxSteps := 4000000) only [go_sem, ↓reduceIte, Nat.reduceAdd, Nat.reduceSub, Nat.reduceMul, Nat.reduceEqDiff, reduceCtorEq, Int.reduceAdd, Int.reduceLT, Int.reduceLE, Int.reduceToNat, Int.reduceNeg, Int.reduceSub, ← List.map_take, ← List.map_drop, ne_eq, Nat.reduceLeDiff, Nat.reduceLT, Nat.zero_le, Nat.le_refl, wrap64, wrapu64, wrapu32, ← Int.natCast_add, ← Int.natCast_mul, cast_succ, wrapu32_nat, shr32, reps_wd, map_set_wd, List.length_set, zs_len, z0, z1, zb, hga, hml, hgb, hmlb, e0, e1, m1, s1, places, fillAll]
    refine ⟨by first | rfl | refine okR_pairs ?_; (repeat ((with_unfolding_all refine And.intro ?_ ?_); (focus (rw [free_mk] <;> (try simp) <;> (try omega))))); (with_unfolding_all exact True.intro), ?_⟩
    rw [w1, ← hIQ]
    refine hfin _ _ _ (garb rfl) ?_ ?_ (by dsimp only; omega)
    · simp only [upd_apply, ↓reduceIte, Nat.reduceEqDiff, e0]
    · simp only [upd_apply, ↓reduceIte, Nat.reduceEqDiff, if_pos]
/-- A list of numbers of any length, of so many. -/
def TimesL (A : Mat) (X : Nat → Int) (n : Nat) : List Raw := (List.range n).map fun i => rz (decide (rx A X i = 0), rx A X i)
theorem TimesL_len (A : Mat) (X : Nat → Int) (n : Nat) : (TimesL A X n).length = n := by unfold TimesL; simp
theorem TimesL_succ (A : Mat) (X : Nat → Int) (n : Nat) : TimesL A X (n + 1) = TimesL A X n ++ [rz (decide (rx A X n = 0), rx A X n)] := by
  unfold TimesL; rw [List.range_succ, List.map_append]; rfl
theorem TimesL_get {A : Mat} {X : Nat → Int} {n i : Nat} (h : i < n) : (TimesL A X n).getD i default = rz (decide (rx A X i = 0), rx A X i) := by
  unfold TimesL
  rw [List.getD_eq_getElem?_getD, List.getElem?_map, List.getElem?_range h]; rfl
set_option maxHeartbeats 1000000 in
theorem rTimes_spec (na : Bool) (A : Mat) (nx' : Bool) (X : List Raw) (hA : ∀ i, i < A.length → NumL (A.getD i default).2 ∧ (A.getD i default).2.length ≤ X.length ∧ (A.getD i default).2.length ≤ 1000) (hX : NumL X) (hAl : A.length ≤ 1000) :
    denP E 15 [mraw na A, lraw nx' X] = some (.ret (lraw (decide (A.length = 0)) (TimesL A (zg X) A.length))) := by
  refine denP_eq E15 rfl (by simp [AV.pureL, AV.pure, pure_ivr, pure_lr]) ?_
  simp (maxSteps := 4000000) only [go_sem, ↓reduceIte, Nat.reduceAdd, Nat.reduceSub, Nat.reduceMul, Nat.reduceEqDiff, reduceCtorEq, Int.reduceAdd, Int.reduceLT, Int.reduceLE, Int.reduceToNat, Int.reduceNeg, Int.reduceSub, ← List.map_take, ← List.map_drop, ne_eq, Nat.reduceLeDiff, Nat.reduceLT, Nat.zero_le, Nat.le_refl, wrap64, wrapu64, wrapu32, ← Int.natCast_add, ← Int.natCast_mul, cast_succ, wrapu32_nat, shr32, reps_wd, map_set_wd, List.length_set, zs_len, Tryz.f15, places, fillAll]
  refine W_loopS (fun k sl h nx => ∃ (i : Nat) (v : AV), (∃ g : Nat → AV, sl = [mraw na A, lraw nx' X, g 2, g 3, g 4, v, .int .i64 (i : Int), g 7, g 8, g 9, g 10, g 11, g 12, g 13, g 14, g 15, g 16, g 17, g 18, g 19, g 20, g 21, g 22]) ∧ i + k = A.length ∧ GrowQ h nx v (TimesL A (zg X) i)) A.length ⟨0, .lst true [], garb rfl, by omega, .inl ⟨rfl, rfl⟩⟩ ?_
  rintro k _ h nx ⟨i, v, ⟨g, rfl⟩, hk, hG⟩
  by_cases hi : i = A.length
  · have z1 : ((i : Int) < (A.length : Int)) = False := eq_false (by omega)
    have hM := TimesL_len A (zg X) i
    rw [← hi]
    generalize TimesL A (zg X) i = M at *
    rcases hG with ⟨rfl, rfl⟩ | ⟨h0, id, hid, rfl, hH⟩
    · have hd : decide (i = 0) = true := decide_eq_true (by simpa using hM.symm)
      rw [hd]
      simp (maxSteps := 4000000) only [go_sem, ↓reduceIte, Nat.reduceAdd, Nat.reduceSub, Nat.reduceMul, Nat.reduceEqDiff, reduceCtorEq, Int.reduceAdd, Int.reduceLT, Int.reduceLE, Int.reduceToNat, Int.reduceNeg, Int.reduceSub, ← List.map_take, ← List.map_drop, ne_eq, Nat.reduceLeDiff, Nat.reduceLT, Nat.zero_le, Nat.le_refl, wrap64, wrapu64, wrapu32, ← Int.natCast_add, ← Int.natCast_mul, cast_succ, wrapu32_nat, shr32, reps_wd, map_set_wd, List.length_set, zs_len, z1, purify_lnil]
      rfl
    · have hd : decide (i = 0) = false := decide_eq_false (by omega)
      rw [hd]
      have hp : ∀ (n : Nat) (H : Heap), refP (n + 1) H id 0 M.length (some ⟨fr M, true, 2, false⟩) = some (.lst false (M.map ivr), [id]) := fun n H => refP_fr rfl
      simp (maxSteps := 4000000) only [go_sem, ↓reduceIte, Nat.reduceAdd, Nat.reduceSub, Nat.reduceMul, Nat.reduceEqDiff, reduceCtorEq, Int.reduceAdd, Int.reduceLT, Int.reduceLE, Int.reduceToNat, Int.reduceNeg, Int.reduceSub, ← List.map_take, ← List.map_drop, ne_eq, Nat.reduceLeDiff, Nat.reduceLT, Nat.zero_le, Nat.le_refl, wrap64, wrapu64, wrapu32, ← Int.natCast_add, ← Int.natCast_mul, cast_succ, wrapu32_nat, shr32, reps_wd, map_set_wd, List.length_set, zs_len, z1, hH, hp]
  · have z1 : ((i : Int) < (A.length : Int)) = True := eq_true (by omega)
    have z0 : ((0 : Int) ≤ (i : Int)) = True := eq_true (by omega)
    have hga := get_lr (A := A) (i := i) (by omega)
    have hml : (A.map lr).length = A.length := List.length_map _
    have w1 : IntKind.i64.wrap ((i + 1 : Nat) : Int) = ((i + 1 : Nat) : Int) := wrap64 (by omega) (by omega)
    obtain ⟨a1, a2, a3⟩ := hA i (by omega)
    have d1 := rDot_spec (A.getD i default).1 (A.getD i default).2 nx' X a1 hX a2 a3
    have hrx : dz (zg (A.getD i default).2) (zg X) (A.getD i default).2.length = rx A (zg X) i := rfl
    rw [hrx] at d1
    have hM := TimesL_len A (zg X) i
    have hfin : ∀ (h' : Heap) (n' : Nat) (sl : List AV) (v' : AV), (∃ g : Nat → AV, sl = [mraw na A, lraw nx' X, g 2, g 3, g 4, v', .int .i64 ((i + 1 : Nat) : Int), g 7, g 8, g 9, g 10, g 11, g 12, g 13, g 14, g 15, g 16, g 17, g 18, g 19, g 20, g 21, g 22]) → GrowQ h' n' v' (TimesL A (zg X) i ++ [rz (decide (rx A (zg X) i = 0), rx A (zg X) i)]) →
        ∃ k', k' < k ∧ ∃ (i : Nat) (v : AV), (∃ g : Nat → AV, sl = [mraw na A, lraw nx' X, g 2, g 3, g 4, v, .int .i64 (i : Int), g 7, g 8, g 9, g 10, g 11, g 12, g 13, g 14, g 15, g 16, g 17, g 18, g 19, g 20, g 21, g 22]) ∧ i + k' = A.length ∧ GrowQ h' n' v (TimesL A (zg X) i) := fun h' n' sl v' c0 c1 => ⟨k - 1, by omega, i + 1, v', c0, by omega, by rw [TimesL_succ]; exact c1⟩
    generalize hIQ : (fun (k : Nat) (σ : St) => ∃ (i : Nat) (v : AV), (∃ g : Nat → AV, σ.sl = [mraw na A, lraw nx' X, g 2, g 3, g 4, v, .int .i64 (i : Int), g 7, g 8, g 9, g 10, g 11, g 12, g 13, g 14, g 15, g 16, g 17, g 18, g 19, g 20, g 21, g 22]) ∧ i + k = A.length ∧ GrowQ σ.h σ.nx v (TimesL A (zg X) i)) = IQ
    simp only [RM] at d1
    clear hrx a1 a2 a3 hA hX
    generalize rx A (zg X) i = s at *
    generalize decide (s = 0) = fs at *
    generalize A.getD i default = R at *
    generalize TimesL A (zg X) i = M at *
    have hmem : ((2 * (i + 1) + 1000) * 32 ≤ 281474976710656) = True := eq_true (by omega)
    have hmem1 : ((2 * 1 + 1000) * 32 ≤ 281474976710656) = True := eq_true (by omega)
    rcases hG with ⟨rfl, rfl⟩ | ⟨h0, id, hid, rfl, hH⟩
    · simp (maxSteps := 4000000) only [go_sem, ↓reduceIte, Nat.reduceAdd, Nat.reduceSub, Nat.reduceMul, Nat.reduceEqDiff, reduceCtorEq, Int.reduceAdd, Int.reduceLT, Int.reduceLE, Int.reduceToNat, Int.reduceNeg, Int.reduceSub, ← List.map_take, ← List.map_drop, ne_eq, Nat.reduceLeDiff, Nat.reduceLT, Nat.zero_le, Nat.le_refl, wrap64, wrapu64, wrapu32, ← Int.natCast_add, ← Int.natCast_mul, cast_succ, wrapu32_nat, shr32, reps_wd, map_set_wd, List.length_set, zs_len, z0, z1, hga, hml, d1, purify_lraw, appendEff, srcCells, reps, places, fillAll, flat, hmem1]
      rw [w1, ← hIQ]
      refine hfin _ _ _ _ (garb rfl) (.inr ⟨by simp, nx + 1, by dsimp only; omega, rfl, ?_⟩)
      simp only [upd_apply, ↓reduceIte, Nat.reduceEqDiff, if_pos]
      rfl
    · have x1 : (id = nx) = False := eq_false (by omega)
      have x2 : (nx = id) = False := eq_false (by omega)
      have x3 : (id = nx + 1) = False := eq_false (by omega)
      have x4 : (nx + 1 = id) = False := eq_false (by omega)
      have hfl := fr_len M
      rw [hM] at hfl
      simp (maxSteps := 4000000) only [go_sem, ↓reduceIte, Nat.reduceAdd, Nat.reduceSub, Nat.reduceMul, Nat.reduceEqDiff, reduceCtorEq, Int.reduceAdd, Int.reduceLT, Int.reduceLE, Int.reduceToNat, Int.reduceNeg, Int.reduceSub, ← List.map_take, ← List.map_drop, ne_eq, Nat.reduceLeDiff, Nat.reduceLT, Nat.zero_le, Nat.le_refl, wrap64, wrapu64, wrapu32, ← Int.natCast_add, ← Int.natCast_mul, cast_succ, wrapu32_nat, shr32, reps_wd, map_set_wd, List.length_set, zs_len, z0, z1, hga, hml, d1, hH, hM, hfl, x1, x2, x3, x4, purify_lraw, appendEff, srcCells, reps, places, fillAll, flat, hmem]
      rw [w1, ← hIQ]
      refine hfin _ _ _ _ (garb rfl) (.inr ⟨by simp, nx + 1, by dsimp only; omega, by rw [List.length_append, hM]; rfl, ?_⟩)
      rw [fr_app]
      simp only [upd_apply, ↓reduceIte, Nat.reduceEqDiff, if_pos]
      rfl
end Go.Proofs.YtnpomadbaanpkaaGreat

/- The machine over pure values: a statement that leaves its order open and panics. (Own work of this repo.) -/
namespace Vm
open Go
/-- What an operation does: it is carried out; it panics; it is never reached. -/
inductive PK where
  | n | p | d
def scriptOk (all : List Oper) : Nat → List PK → List Nat → Bool
  | _, [], qs => !qs.isEmpty
  | i, .d :: ks, qs => qs.any (befBit all i) && scriptOk all (i + 1) ks qs
  | i, .n :: ks, qs => !qs.any (befBit all i) && scriptOk all (i + 1) ks qs
  | i, .p :: ks, qs => !qs.any (befBit all i) && scriptOk all (i + 1) ks (i :: qs)
def okRP (all : List Oper) (n0 : Nat) (rs : List Rec) : Bool := match rs.all Rec.quiet with | true => true | false => dynOk all 0 rs && rs.all (fun r => r.ids.all fun i => n0 ≤ i)
theorem summ_okP {all : List Oper} {n0 : Nat} (rs : List Rec) : okRP all n0 (rs.map summ) = okRP all n0 rs := by
  unfold okRP
  have h1 : (rs.map summ).all Rec.quiet = rs.all Rec.quiet := by
    rw [List.all_map]; congr 1; funext r; exact summ_quiet r
  have h2 : (rs.map summ).all (fun r => r.ids.all fun i => n0 ≤ i) = rs.all (fun r => r.ids.all fun i => n0 ≤ i) := by
    rw [List.all_map]; congr 1; funext r; simp only [Function.comp, summ_ids]
  rw [h1, h2, summ_dyn]
section
variable {E : Env}
def rpaK (E : Env) (V : AV) (next : List Rec → St → Prop) (acc : List Rec) (σ : St) (g : FuncId) : Option (List AV × List Nat) → Prop
  | some (l, ids) => denP E g l = some (.panic V) ∧ next (acc ++ [mk ids []]) σ
  | none => False
def rptK (E : Env) (V : AV) (next : List Rec → St → Prop) (acc : List Rec) (σ : St) : Option (FuncId × List AV) → Prop
  | some (g, l) => rpaK E V next acc σ g (mapL (purify deep σ.h) l)
  | none => False
def rpwK (E : Env) (V : AV) (o : Oper) (next : List Rec → St → Prop) (acc : List Rec) (σ : St) : Option Bool → Prop
  | some true => rptK E V next acc σ (target σ.sl o.op)
  | _ => False
def Rp (E : Env) (all : List Oper) (V : AV) (σ0 : St) (Q : Ex → St → Prop) : List Oper → List PK → List Rec → St → Prop
  | [], [] => fun acc σ => okRP all σ0.nx acc = true ∧ Q (.panic V) ⟨σ0.sl, σ0.h, σ.nx⟩
  | o :: os, .n :: ks => fun acc σ => rwK E o (Rp E all V σ0 Q os ks) acc σ (want all σ.sl o)
  | _ :: os, .d :: ks => fun acc σ => Rp E all V σ0 Q os ks (acc ++ [mk [] []]) σ
  | o :: os, .p :: ks => fun acc σ => rpwK E V o (Rp E all V σ0 Q os ks) acc σ (want all σ.sl o)
  | _, _ => fun _ _ => False
theorem ce_pan {N : Nat} {H : Heap} {g : FuncId} {l l' : List AV} {ids : List Nat} {v : AV} (hV : sameP v v = true) (hl : mapL (purify deep H) l = some (l', ids)) (hd : denP E g l' = some (.panic v)) : CE E N H g l = some ⟨.panic v, ids, [], false⟩ := by
  have h1 := mapL_lends (n := 4) hl
  have hd' : (cl E (den E)).p g l' = some (.panic v) := hd
  unfold CE callEff
  rw [h1, Bool.and_false, if_neg (by simp)]
  simp only [pcallEff, hl, hd', Option.map_some, mild, hV, if_true]
def pst (qs : List Nat) (V : AV) : Option (List Nat × AV) := match qs with | [] => none | q :: qs => some (q :: qs, V)
theorem pst_dead (qs : List Nat) (V : AV) (all : List Oper) (i : Nat) : (match pst qs V with | some (qs, _) => qs.any (befBit all i) | none => false) = qs.any (befBit all i) := by
  cases qs <;> rfl
theorem Rp_sound {N : Nat} {all : List Oper} {V : AV} {σ0 : St} {Q : Ex → St → Prop} (hV : sameP V V = true) : ∀ (os : List Oper) (ks : List PK) (i : Nat) (qs : List Nat) (acc : List Rec) (σ : St), scriptOk all i ks qs = true → Rp E all V σ0 Q os ks acc σ →
    ∃ rs qs' σ', recs E (CE E N) all os i (pst qs V) σ = some (rs, some (qs', V), σ') ∧ okRP all σ0.nx (acc ++ rs.map summ) = true ∧ Q (.panic V) ⟨σ0.sl, σ0.h, σ'.nx⟩
  | [], [], i, qs, acc, σ, hs, h => by
    simp only [Rp] at h
    cases qs with
    | nil => simp [scriptOk] at hs
    | cons q qs => exact ⟨[], q :: qs, σ, rfl, by simpa using h.1, h.2⟩
  | o :: os, .n :: ks, i, qs, acc, σ, hs, h => by
    simp only [scriptOk, Bool.and_eq_true, Bool.not_eq_true'] at hs
    have step : ∀ (r : Rec) (σ1 : St), Rp E all V σ0 Q os ks (acc ++ [summ r]) σ1 → ∃ rs qs' σ', recs E (CE E N) all os (i + 1) (pst qs V) σ1 = some (rs, some (qs', V), σ') ∧ okRP all σ0.nx (acc ++ (r :: rs).map summ) = true ∧ Q (.panic V) ⟨σ0.sl, σ0.h, σ'.nx⟩ := by
      intro r σ1 h
      obtain ⟨rs, qs', σ', h1, h2, h3⟩ := Rp_sound (N := N) hV os ks (i + 1) qs _ σ1 hs.2 h
      exact ⟨rs, qs', σ', h1, by simpa using h2, h3⟩
    simp only [Rp] at h
    unfold rwK at h
    split at h
    · rename_i hw
      unfold rtK at h
      split at h
      · rename_i g l ht
        unfold raK at h
        split at h
        · rename_i l' ids hl
          unfold rcK at h
          split at h
          · rename_i v hd
            obtain ⟨rs, qs', σ', h1, h2, h3⟩ := step ⟨.ok, o.dst, v, ids, freezes σ.h ids, none, depOf σ.sl σ.h o.op ⟨.val v, ids, freezes σ.h ids, false⟩⟩ _ h
            refine ⟨_, qs', σ', ?_, h2, h3⟩
            have he : anyEff E (CE E N) σ.h σ.nx σ.sl o.op = some ⟨.val v, ids, freezes σ.h ids, false⟩ := by
              unfold anyEff
              rw [ht]
              exact ce_pure hl hd
            have h1' : recs E (CE E N) all os (i + 1) (pst qs V) ((σ.eff ⟨.val v, ids, freezes σ.h ids, false⟩).put o.dst v) = some (rs, some (qs', V), σ') := h1
            cases qs with
            | nil => simp only [pst] at h1' ⊢; simp only [recs, hw, he, h1', Bool.false_eq_true, if_false]
            | cons q qs => have hd := hs.1; simp only [pst] at h1' ⊢; simp only [recs, hd, hw, he, h1', Bool.false_eq_true, if_false]
          · exact h.elim
        · exact h.elim
      · rename_i ht
        have he : anyEff E (CE E N) σ.h σ.nx σ.sl o.op = opEff E σ.h σ.nx σ.sl o.op := by unfold anyEff; rw [ht]
        unfold reK at h
        split at h
        · rename_i v rds ups new ho
          obtain ⟨rs, qs', σ', h1, h2, h3⟩ := step ⟨.ok, o.dst, v, rds, ups, if new then some σ.nx else none, depOf σ.sl σ.h o.op ⟨.val v, rds, ups, new⟩⟩ _ h
          refine ⟨_, qs', σ', ?_, h2, h3⟩
          have h1' : recs E (CE E N) all os (i + 1) (pst qs V) ((σ.eff ⟨.val v, rds, ups, new⟩).put o.dst v) = some (rs, some (qs', V), σ') := h1
          rw [ho] at he
          cases qs with
          | nil => simp only [pst] at h1' ⊢; simp only [recs, hw, he, h1']
          | cons q qs => have hd := hs.1; simp only [pst] at h1' ⊢; simp only [recs, hd, hw, he, h1']
        · rename_i rds ups new ho
          obtain ⟨rs, qs', σ', h1, h2, h3⟩ := step ⟨.ok, o.dst, undef, rds, ups, if new then some σ.nx else none, depOf σ.sl σ.h o.op ⟨.skip, rds, ups, new⟩⟩ _ h
          refine ⟨_, qs', σ', ?_, h2, h3⟩
          have h1' : recs E (CE E N) all os (i + 1) (pst qs V) ((σ.eff ⟨.skip, rds, ups, new⟩).put o.dst undef) = some (rs, some (qs', V), σ') := h1
          rw [ho] at he
          cases qs with
          | nil => simp only [pst] at h1' ⊢; simp only [recs, hw, he, h1']
          | cons q qs => have hd := hs.1; simp only [pst] at h1' ⊢; simp only [recs, hd, hw, he, h1']
        · exact h.elim
    · rename_i hw
      obtain ⟨rs, qs', σ', h1, h2, h3⟩ := step ⟨.ok, o.dst, undef, [], [], none, .all⟩ _ h
      refine ⟨_, qs', σ', ?_, h2, h3⟩
      have h1' : recs E (CE E N) all os (i + 1) (pst qs V) (σ.put o.dst undef) = some (rs, some (qs', V), σ') := h1
      cases qs with
      | nil => simp only [pst] at h1' ⊢; simp only [recs, hw, h1']
      | cons q qs => have hd := hs.1; simp only [pst] at h1' ⊢; simp only [recs, hd, hw, h1']
    · exact h.elim
  | o :: os, .d :: ks, i, qs, acc, σ, hs, h => by
    simp only [scriptOk, Bool.and_eq_true] at hs
    simp only [Rp] at h
    obtain ⟨rs, qs', σ', h1, h2, h3⟩ := Rp_sound (N := N) hV os ks (i + 1) qs _ σ hs.2 h
    refine ⟨⟨.dead, none, undef, [], [], none, .all⟩ :: rs, qs', σ', ?_, ?_, h3⟩
    · cases qs with
      | nil => simp at hs
      | cons q qs => have hd := hs.1; simp only [pst] at h1 ⊢; simp only [recs, hd, h1]
    · rw [← h2, List.map_cons, List.append_assoc]; rfl
  | o :: os, .p :: ks, i, qs, acc, σ, hs, h => by
    simp only [scriptOk, Bool.and_eq_true, Bool.not_eq_true'] at hs
    simp only [Rp] at h
    unfold rpwK at h
    split at h
    · rename_i hw
      unfold rptK at h
      split at h
      · rename_i g l ht
        unfold rpaK at h
        split at h
        · rename_i l' ids hl
          obtain ⟨hd, h⟩ := h
          obtain ⟨rs, qs', σ', h1, h2, h3⟩ := Rp_sound (N := N) hV os ks (i + 1) (i :: qs) _ σ hs.2 h
          have he : anyEff E (CE E N) σ.h σ.nx σ.sl o.op = some ⟨.panic V, ids, [], false⟩ := by
            unfold anyEff
            rw [ht]
            exact ce_pan hV hl hd
          refine ⟨⟨.pan, none, V, ids, [], none, .all⟩ :: rs, qs', σ', ?_, ?_, h3⟩
          · have h1' : recs E (CE E N) all os (i + 1) (some (i :: qs, V)) σ = some (rs, some (qs', V), σ') := h1
            cases qs with
            | nil => simp only [pst]; simp only [recs, hw, he, h1', List.isEmpty_nil, Bool.not_false, Bool.and_self, if_true]
            | cons q qs => have hd := hs.1; simp only [pst]; simp only [recs, hd, hw, he, h1', hV, List.isEmpty_nil, Bool.not_false, Bool.and_self, if_true]
          · rw [← h2, List.map_cons, List.append_assoc]; rfl
        · exact h.elim
      · exact h.elim
    · exact h.elim
  | [], .n :: ks, i, qs, acc, σ, hs, h => by simp only [Rp] at h
  | [], .d :: ks, i, qs, acc, σ, hs, h => by simp only [Rp] at h
  | [], .p :: ks, i, qs, acc, σ, hs, h => by simp only [Rp] at h
  | o :: os, [], i, qs, acc, σ, hs, h => by simp only [Rp] at h
variable {Q : Ex → St → Prop} {σ : St}
theorem W_drawnP {i : Nat} {ops : Array Oper} {V : AV} (ks : List PK) (hV : sameP V V = true) (hs : scriptOk ops.toList 0 ks [] = true) (h : Rp E ops.toList V σ Q ops.toList ks [] σ) : W E (.region i ops true) σ Q := by
  obtain ⟨rs, qs', σ', h1, h2, h3⟩ := Rp_sound (N := σ.nx + ops.toList.length) hV ops.toList ks 0 [] [] σ hs h
  rw [List.nil_append, summ_okP] at h2
  have : runDraw E (cl E (den E)) ops.toList σ = some (.panic V, ⟨σ.sl, σ.h, σ'.nx⟩) := by
    unfold runDraw
    have h1' : recs E (callEff E (cl E (den E)) (σ.nx + ops.toList.length)) ops.toList ops.toList 0 none σ = some (rs, some (qs', V), σ') := h1
    rw [h1']
    unfold okRP at h2
    dsimp only
    split
    · rfl
    · rename_i hf; cases hq : rs.all Rec.quiet <;> simp only [hq] at h2 hf <;> first | (cases hf; done) | (rw [h2] at hf; cases hf)
  rw [W_draw this]
  exact h3
variable {all os : List Oper} {V : AV} {σ0 : St} {ks : List PK} {acc : List Rec} {o : Oper} {g : FuncId} {l : List AV} {ids : List Nat} {next : List Rec → St → Prop}
theorem Rp_nil : Rp E all V σ0 Q [] [] acc σ = (okRP all σ0.nx acc = true ∧ Q (.panic V) ⟨σ0.sl, σ0.h, σ.nx⟩) := propext (by simp only [Rp])
theorem Rp_n : Rp E all V σ0 Q (o :: os) (.n :: ks) acc σ = rwK E o (Rp E all V σ0 Q os ks) acc σ (want all σ.sl o) := propext (by simp only [Rp])
theorem Rp_d : Rp E all V σ0 Q (o :: os) (.d :: ks) acc σ = Rp E all V σ0 Q os ks (acc ++ [mk [] []]) σ := propext (by simp only [Rp])
theorem Rp_p : Rp E all V σ0 Q (o :: os) (.p :: ks) acc σ = rpwK E V o (Rp E all V σ0 Q os ks) acc σ (want all σ.sl o) := propext (by simp only [Rp])
theorem rpwK_t : rpwK E V o next acc σ (some true) = rptK E V next acc σ (target σ.sl o.op) := propext ⟨fun h => h, fun h => h⟩
theorem rptK_some : rptK E V next acc σ (some (g, l)) = rpaK E V next acc σ g (mapL (purify deep σ.h) l) := propext ⟨fun h => h, fun h => h⟩
theorem rpaK_some : rpaK E V next acc σ g (some (l, ids)) = (denP E g l = some (.panic V) ∧ next (acc ++ [mk ids []]) σ) := propext ⟨fun h => h, fun h => h⟩
end
attribute [go_sem] Rp_nil Rp_n Rp_d Rp_p rpwK_t rptK_some rpaK_some
end Vm

/- Walks: sums of products that do not fit. (Own work of this repo.) -/
namespace Go.Proofs.YtnpomadbaanpkaaGreat
open Vm
set_option maxRecDepth 10000

theorem thr_same (e : Int) : sameP (Thr e) (Thr e) = true := by simp [sameP, Thr]
set_option maxHeartbeats 1000000 in
theorem dot_pan (na : Bool) (A : List Raw) (nb : Bool) (B : List Raw) (hA : AllV A) (hB : AllV B) (hl : A.length ≤ B.length) (hAl : A.length < 1000000) (i0 : Nat) (hi0 : i0 < A.length)
    (hp : ∀ i, i < i0 → (dg (zg A i * zg B i)).length ≤ 4096) (hs : ∀ i, i ≤ i0 → (dg (dz (zg A) (zg B) i)).length ≤ 4096)
    (hno : ¬ ((dg (zg A i0 * zg B i0)).length ≤ 4096 ∧ (dg (dz (zg A) (zg B) (i0 + 1))).length ≤ 4096)) :
    denP E 38 [lraw na A, lraw nb B] = some (.panic (Thr 4)) := by
  refine denP_pan E38 rfl (by simp [AV.pureL, AV.pure, pure_ivr]) ?_
  have hV := thr_same 4
  simp (maxSteps := 4000000) only [go_sem, ↓reduceIte, Nat.reduceAdd, Nat.reduceSub, Nat.reduceMul, Nat.reduceEqDiff, reduceCtorEq, Int.reduceAdd, Int.reduceLT, Int.reduceLE, Int.reduceToNat, Int.reduceNeg, Int.reduceSub, ← List.map_take, ← List.map_drop, ne_eq, Nat.reduceLeDiff, Nat.reduceLT, Nat.zero_le, Nat.le_refl, wrap64, wrapu64, wrapu32, ← Int.natCast_add, ← Int.natCast_mul, cast_succ, wrapu32_nat, shr32, reps_wd, map_set_wd, List.length_set, zs_len, Tryz.f38, places, fillAll]
  refine W_loopS (fun k sl h nx => ∃ (i : Nat) (f : Bool), (∃ g : Nat → AV, sl = [g 0, lraw nb B, g 2, g 3, .ptr 0 0, .ptr 1 0, g 6, g 7, lraw na A, .int .i64 (A.length : Int), .int .i64 (i : Int), g 11, g 12, g 13, g 14, g 15, g 16, g 17, g 18, g 19, g 20, g 21, g 22, g 23, g 24]) ∧ i + k = i0 ∧ h 0 = some ⟨[.bool false, .lst true []], true, 2, false⟩ ∧ h 1 = some ⟨[.bool (ng (dz (zg A) (zg B) i)), .lst f ((dg (dz (zg A) (zg B) i)).map wd)], true, 2, false⟩ ∧ 2 ≤ nx) i0 ⟨0, true, garb rfl, by omega, ?_, ?_, Nat.le_refl _⟩ ?_
  · simp only [upd_apply, ↓reduceIte, Nat.reduceEqDiff, if_pos]
  · rw [show dz (zg A) (zg B) 0 = 0 from rfl, ng_zero, dg_zero]; simp only [upd_apply, ↓reduceIte, Nat.reduceEqDiff, if_pos]; rfl
  rintro k _ h nx ⟨i, f, ⟨g, rfl⟩, hk, e0, e1, hnx⟩
  have z1 : ((i : Int) < (A.length : Int)) = True := eq_true (by omega)
  have z0 : ((0 : Int) ≤ (i : Int)) = True := eq_true (by omega)
  have zb : ((i : Int) < (B.length : Int)) = True := eq_true (by omega)
  have hga := get_ivr (L := A) (i := i) (by omega)
  have hgb := get_ivr (L := B) (i := i) (by omega)
  obtain ⟨a1, a2, a3, a4, a5⟩ := zv_spec (hA.get (show i < A.length by omega)).1 (hA.get (show i < A.length by omega)).2
  obtain ⟨b1, b2, b3, b4, b5⟩ := zv_spec (hB.get (show i < B.length by omega)).1 (hB.get (show i < B.length by omega)).2
  rw [← a4, ← a5] at hga
  rw [← b4, ← b5] at hgb
  have hs0 := hs i (by omega)
  have hst : dz (zg A) (zg B) (i + 1) = dz (zg A) (zg B) i + zg A i * zg B i := rfl
  have hml : (A.map ivr).length = A.length := List.length_map _
  have hmlb : (B.map ivr).length = B.length := List.length_map _
  have x0 : (nx = 0) = False := eq_false (by omega)
  have x1 : (nx = 1) = False := eq_false (by omega)
  have x2 : (0 = nx) = False := eq_false (by omega)
  have x3 : (1 = nx) = False := eq_false (by omega)
  rw [← a2] at a3
  rw [← b2] at b3
  by_cases hi : i = i0
  · subst hi
    rw [hst] at hno
    clear hs hst hp a1 a2 b1 b2 a4 a5 b4 b5
    unfold zg at *
    generalize A.getD i default = qa at *
    generalize B.getD i default = qb at *
    generalize zv qa = x at *
    generalize zv qb = y at *
    generalize dz (fun i => zv (A.getD i default)) (fun i => zv (B.getD i default)) i = s at *
    generalize qa.2.1 = fa at *
    generalize qb.2.1 = fb at *
    by_cases hp : (dg (x * y)).length ≤ 4096
    · have m1 := exMul_ret fa fb x y a3 b3 hp
      have s1 := exAdd_pan f (mz x y) s (x * y) hs0 hp fun e => hno ⟨hp, e⟩
      generalize mz x y = fm at *
      generalize x * y = xy at *
      clear hp hs0 hno a3 b3
      simp (maxSteps := 4000000) only [go_sem, ↓reduceIte, Nat.reduceAdd, Nat.reduceSub, Nat.reduceMul, Nat.reduceEqDiff, reduceCtorEq, Int.reduceAdd, Int.reduceLT, Int.reduceLE, Int.reduceToNat, Int.reduceNeg, Int.reduceSub, ← List.map_take, ← List.map_drop, ne_eq, Nat.reduceLeDiff, Nat.reduceLT, Nat.zero_le, Nat.le_refl, wrap64, wrapu64, wrapu32, ← Int.natCast_add, ← Int.natCast_mul, cast_succ, wrapu32_nat, shr32, reps_wd, map_set_wd, List.length_set, zs_len, z0, z1, hga, hml, x0, x1, x2, x3, e0, e1, places, fillAll]
      refine W_drawnP [.n, .n, .n, .n, .n, .n, .n, .p, .d] hV (by decide +kernel) ?_
      simp (maxSteps := 4000000) only [go_sem, ↓reduceIte, Nat.reduceAdd, Nat.reduceSub, Nat.reduceMul, Nat.reduceEqDiff, reduceCtorEq, Int.reduceAdd, Int.reduceLT, Int.reduceLE, Int.reduceToNat, Int.reduceNeg, Int.reduceSub, ← List.map_take, ← List.map_drop, ne_eq, Nat.reduceLeDiff, Nat.reduceLT, Nat.zero_le, Nat.le_refl, wrap64, wrapu64, wrapu32, ← Int.natCast_add, ← Int.natCast_mul, cast_succ, wrapu32_nat, shr32, reps_wd, map_set_wd, List.length_set, zs_len, z0, zb, hgb, hmlb, x0, x1, x2, x3, e0, e1, m1, s1, places, fillAll]
      rfl
    · have m1 := exMul_pan fa fb x y a3 b3 hp
      clear hp hs0 hno a3 b3
      simp (maxSteps := 4000000) only [go_sem, ↓reduceIte, Nat.reduceAdd, Nat.reduceSub, Nat.reduceMul, Nat.reduceEqDiff, reduceCtorEq, Int.reduceAdd, Int.reduceLT, Int.reduceLE, Int.reduceToNat, Int.reduceNeg, Int.reduceSub, ← List.map_take, ← List.map_drop, ne_eq, Nat.reduceLeDiff, Nat.reduceLT, Nat.zero_le, Nat.le_refl, wrap64, wrapu64, wrapu32, ← Int.natCast_add, ← Int.natCast_mul, cast_succ, wrapu32_nat, shr32, reps_wd, map_set_wd, List.length_set, zs_len, z0, z1, hga, hml, x0, x1, x2, x3, e0, e1, places, fillAll]
      refine W_drawnP [.n, .n, .n, .n, .n, .n, .p, .d, .d] hV (by decide +kernel) ?_
      simp (maxSteps := 4000000) only [go_sem, ↓reduceIte, Nat.reduceAdd, Nat.reduceSub, Nat.reduceMul, Nat.reduceEqDiff, reduceCtorEq, Int.reduceAdd, Int.reduceLT, Int.reduceLE, Int.reduceToNat, Int.reduceNeg, Int.reduceSub, ← List.map_take, ← List.map_drop, ne_eq, Nat.reduceLeDiff, Nat.reduceLT, Nat.zero_le, Nat.le_refl, wrap64, wrapu64, wrapu32, ← Int.natCast_add, ← Int.natCast_mul, cast_succ, wrapu32_nat, shr32, reps_wd, map_set_wd, List.length_set, zs_len, z0, zb, hgb, hmlb, x0, x1, x2, x3, e0, e1, m1, places, fillAll]
      rfl
  · have hp := hp i (by omega)
    have hs1 := hs (i + 1) (by omega)
    have w1 : IntKind.i64.wrap ((i + 1 : Nat) : Int) = ((i + 1 : Nat) : Int) := wrap64 (by omega) (by omega)
    have hfin : ∀ (h' : Heap) (n' : Nat) (sl : List AV) (f' : Bool), (∃ g : Nat → AV, sl = [g 0, lraw nb B, g 2, g 3, .ptr 0 0, .ptr 1 0, g 6, g 7, lraw na A, .int .i64 (A.length : Int), .int .i64 ((i + 1 : Nat) : Int), g 11, g 12, g 13, g 14, g 15, g 16, g 17, g 18, g 19, g 20, g 21, g 22, g 23, g 24]) → h' 0 = some ⟨[.bool false, .lst true []], true, 2, false⟩ → h' 1 = some ⟨[.bool (ng (dz (zg A) (zg B) (i + 1))), .lst f' ((dg (dz (zg A) (zg B) (i + 1))).map wd)], true, 2, false⟩ → 2 ≤ n' →
        ∃ k', k' < k ∧ ∃ (i : Nat) (f : Bool), (∃ g : Nat → AV, sl = [g 0, lraw nb B, g 2, g 3, .ptr 0 0, .ptr 1 0, g 6, g 7, lraw na A, .int .i64 (A.length : Int), .int .i64 (i : Int), g 11, g 12, g 13, g 14, g 15, g 16, g 17, g 18, g 19, g 20, g 21, g 22, g 23, g 24]) ∧ i + k' = i0 ∧ h' 0 = some ⟨[.bool false, .lst true []], true, 2, false⟩ ∧ h' 1 = some ⟨[.bool (ng (dz (zg A) (zg B) i)), .lst f ((dg (dz (zg A) (zg B) i)).map wd)], true, 2, false⟩ ∧ 2 ≤ n' := fun h' n' sl f' c0 c1 c2 c3 => ⟨k - 1, by omega, i + 1, f', c0, by omega, c1, c2, c3⟩
    generalize hIQ : (fun (k : Nat) (σ : St) => ∃ (i : Nat) (f : Bool), (∃ g : Nat → AV, σ.sl = [g 0, lraw nb B, g 2, g 3, .ptr 0 0, .ptr 1 0, g 6, g 7, lraw na A, .int .i64 (A.length : Int), .int .i64 (i : Int), g 11, g 12, g 13, g 14, g 15, g 16, g 17, g 18, g 19, g 20, g 21, g 22, g 23, g 24]) ∧ i + k = i0 ∧ σ.h 0 = some ⟨[.bool false, .lst true []], true, 2, false⟩ ∧ σ.h 1 = some ⟨[.bool (ng (dz (zg A) (zg B) i)), .lst f ((dg (dz (zg A) (zg B) i)).map wd)], true, 2, false⟩ ∧ 2 ≤ σ.nx) = IQ
    rw [hst] at hs1 hfin
    clear hs hst hno a1 a2 b1 b2 a4 a5 b4 b5
    unfold zg at *
    generalize hqa : A.getD i default = qa at *
    generalize hqb : B.getD i default = qb at *
    clear hqa hqb
    generalize zv qa = x at *
    generalize zv qb = y at *
    generalize dz (fun i => zv (A.getD i default)) (fun i => zv (B.getD i default)) i = s at *
    have m1 := exMul_ret qa.2.1 qb.2.1 x y a3 b3 hp
    have s1 := exAdd_ret f (mz x y) s (x * y) hs0 hp hs1
    generalize qa.2.1 = fa at *
    generalize qb.2.1 = fb at *
    generalize mz x y = fm at *
    generalize x * y = xy at *
    generalize s + xy = s2 at *
    clear hp hs0 hs1 a3 b3
    simp (maxSteps := 4000000) only [go_sem, ↓reduceIte, Nat.reduceAdd, Nat.reduceSub, Nat.reduceMul, Nat.reduceEqDiff, reduceCtorEq, Int.reduceAdd, Int.reduceLT, Int.reduceLE, Int.reduceToNat, Int.reduceNeg, Int.reduceSub, ← List.map_take, ← List.map_drop, ne_eq, Nat.reduceLeDiff, Nat.reduceLT, Nat.zero_le, Nat.le_refl, wrap64, wrapu64, wrapu32, ← Int.natCast_add, ← Int.natCast_mul, cast_succ, wrapu32_nat, shr32, reps_wd, map_set_wd, List.length_set, zs_len, z0, z1, hga, hml, x0, x1, x2, x3, e0, e1, places, fillAll]
    refine W_drawn ?_
    simp (maxSteps := 4000000) only [go_sem, ↓reduceIte, Nat.reduceAdd, Nat.reduceSub, Nat.reduceMul, Nat.reduceEqDiff, reduceCtorEq, Int.reduceAdd, Int.reduceLT, Int.reduceLE, Int.reduceToNat, Int.reduceNeg, Int.reduceSub, ← List.map_take, ← List.map_drop, ne_eq, Nat.reduceLeDiff, Nat.reduceLT, Nat.zero_le, Nat.le_refl, wrap64, wrapu64, wrapu32, ← Int.natCast_add, ← Int.natCast_mul, cast_succ, wrapu32_nat, shr32, reps_wd, map_set_wd, List.length_set, zs_len, z0, zb, hgb, hmlb, x0, x1, x2, x3, e0, e1, m1, s1, places, fillAll]
    refine ⟨by refine okR_pairs ?_; (repeat ((with_unfolding_all refine And.intro ?_ ?_); (focus (rw [free_mk] <;> (try simp) <;> (try omega))))); (with_unfolding_all exact True.intro), ?_⟩
    rw [w1, ← hIQ]
    refine hfin _ _ _ false (garb rfl) ?_ ?_ (by dsimp only; omega)
    · simp only [upd_apply, ↓reduceIte, Nat.reduceEqDiff, e0, x2]
    · simp only [upd_apply, ↓reduceIte, Nat.reduceEqDiff, if_pos]
/-- Everything that the sum of products forms fits. -/
def dzFit (a b : Nat → Int) (n : Nat) : Prop := (∀ i, i < n → (dg (a i * b i)).length ≤ 4096) ∧ ∀ i, i ≤ n → (dg (dz a b i)).length ≤ 4096
/-- Either all fits, or there is a first place where it does not. -/
theorem dz_cases (a b : Nat → Int) : ∀ n, dzFit a b n ∨ ∃ i0, i0 < n ∧ dzFit a b i0 ∧ ¬ ((dg (a i0 * b i0)).length ≤ 4096 ∧ (dg (dz a b (i0 + 1))).length ≤ 4096)
  | 0 => .inl ⟨fun i hi => absurd hi (Nat.not_lt_zero i), fun i hi => by
    obtain rfl : i = 0 := by omega
    show (dg 0).length ≤ 4096
    rw [dg_zero]; simp⟩
  | n + 1 => by
    rcases dz_cases a b n with h | ⟨i0, h1, h2⟩
    · by_cases hn : (dg (a n * b n)).length ≤ 4096 ∧ (dg (dz a b (n + 1))).length ≤ 4096
      · refine .inl ⟨fun i hi => ?_, fun i hi => ?_⟩
        · by_cases e : i = n
          · rw [e]; exact hn.1
          · exact h.1 i (by omega)
        · by_cases e : i = n + 1
          · rw [e]; exact hn.2
          · exact h.2 i (by omega)
      · exact .inr ⟨n, Nat.lt_succ_self n, h, hn⟩
    · exact .inr ⟨i0, by omega, h2⟩
theorem dot_no (na : Bool) (A : List Raw) (nb : Bool) (B : List Raw) (hA : AllV A) (hB : AllV B) (hl : A.length ≤ B.length) (hAl : A.length < 1000000) (h : ¬ dzFit (zg A) (zg B) A.length) :
    denP E 38 [lraw na A, lraw nb B] = some (.panic (Thr 4)) := by
  rcases dz_cases (zg A) (zg B) A.length with h1 | ⟨i0, h1, h2, h3⟩
  · exact absurd h1 h
  · exact dot_pan na A nb B hA hB hl hAl i0 h1 h2.1 h2.2 h3
end Go.Proofs.YtnpomadbaanpkaaGreat

/- Walks: Holds, of what does not fit. (Own work of this repo.) -/
namespace Go.Proofs.YtnpomadbaanpkaaGreat
open Vm
set_option maxRecDepth 10000

theorem fitX_cases (A : Mat) (X : Nat → Int) (w : Nat) : ∀ n, (∀ i, i < n → dzFit (rowz A i) X w) ∨ ∃ i0, i0 < n ∧ (∀ i, i < i0 → dzFit (rowz A i) X w) ∧ ¬ dzFit (rowz A i0) X w
  | 0 => .inl fun i hi => absurd hi (Nat.not_lt_zero i)
  | n + 1 => by
    rcases fitX_cases A X w n with h | ⟨i0, h1, h2⟩
    · by_cases hn : dzFit (rowz A n) X w
      · refine .inl fun i hi => ?_
        by_cases e : i = n
        · rw [e]; exact hn
        · exact h i (by omega)
      · exact .inr ⟨n, Nat.lt_succ_self n, h, hn⟩
    · exact .inr ⟨i0, by omega, h2⟩
set_option maxHeartbeats 1000000 in
theorem holds_pan (na : Bool) (A : Mat) (nb : Bool) (B : List Raw) (nx' : Bool) (X : List Raw) (w : Nat) (hA : MatV A w) (hB : AllV B) (hX : AllV X) (hAl : A.length ≤ B.length) (hAm : A.length < 1000000) (hw : w ≤ X.length) (hwm : w < 1000000) (i0 : Nat) (hi0 : i0 < A.length)
    (hf : ∀ i, i < i0 → dzFit (rowz A i) (zg X) w) (hno : ¬ dzFit (rowz A i0) (zg X) w) :
    denP E 34 [mraw na A, lraw nb B, lraw nx' X] = some (.panic (Thr 4)) := by
  refine denP_pan E34 rfl (by simp [AV.pureL, AV.pure, pure_ivr, pure_lr]) ?_
  have hV := thr_same 4
  simp (maxSteps := 4000000) only [go_sem, ↓reduceIte, Nat.reduceAdd, Nat.reduceSub, Nat.reduceMul, Nat.reduceEqDiff, reduceCtorEq, Int.reduceAdd, Int.reduceLT, Int.reduceLE, Int.reduceToNat, Int.reduceNeg, Int.reduceSub, ← List.map_take, ← List.map_drop, ne_eq, Nat.reduceLeDiff, Nat.reduceLT, Nat.zero_le, Nat.le_refl, wrap64, wrapu64, wrapu32, ← Int.natCast_add, ← Int.natCast_mul, cast_succ, wrapu32_nat, shr32, reps_wd, map_set_wd, List.length_set, zs_len, Tryz.f34, places, fillAll]
  refine W_loopS (fun k sl h nx => ∃ (i : Nat) (s : Bool), (∃ g : Nat → AV, sl = [g 0, lraw nb B, lraw nx' X, g 3, g 4, g 5, g 6, .bool s, g 8, g 9, mraw na A, .int .i64 (A.length : Int), .int .i64 (i : Int), g 13, g 14, g 15, g 16, g 17, g 18, g 19, g 20, g 21, g 22, g 23, g 24, g 25, g 26, g 27, g 28, g 29, g 30]) ∧ i + k = i0) i0 ⟨0, true, garb rfl, by omega⟩ ?_
  rintro k _ h nx ⟨i, s, ⟨g, rfl⟩, hk⟩
  have z1 : ((i : Int) < (A.length : Int)) = True := eq_true (by omega)
  have z0 : ((0 : Int) ≤ (i : Int)) = True := eq_true (by omega)
  have zb : ((i : Int) < (B.length : Int)) = True := eq_true (by omega)
  have hga := get_lr (A := A) (i := i) (by omega)
  have hgb := get_ivr (L := B) (i := i) (by omega)
  obtain ⟨hr1, hr2⟩ := hA i (by omega)
  obtain ⟨b1, b2, b3, b4, b5⟩ := zv_spec (hB.get (show i < B.length by omega)).1 (hB.get (show i < B.length by omega)).2
  rw [← b4, ← b5] at hgb
  have hml : (A.map lr).length = A.length := List.length_map _
  have hmlb : (B.map ivr).length = B.length := List.length_map _
  by_cases hi : i = i0
  · subst hi
    have d1 := dot_no (A.getD i default).1 (A.getD i default).2 nx' X hr1 hX (by omega) (by omega) (by rw [hr2]; exact hno)
    clear b1 b2 b3 b4 b5 hf hno hr1 hr2
    generalize zv (B.getD i default) = b at *
    generalize A.getD i default = R at *
    generalize B.getD i default = q at *
    simp (maxSteps := 4000000) only [go_sem, ↓reduceIte, Nat.reduceAdd, Nat.reduceSub, Nat.reduceMul, Nat.reduceEqDiff, reduceCtorEq, Int.reduceAdd, Int.reduceLT, Int.reduceLE, Int.reduceToNat, Int.reduceNeg, Int.reduceSub, ← List.map_take, ← List.map_drop, ne_eq, Nat.reduceLeDiff, Nat.reduceLT, Nat.zero_le, Nat.le_refl, wrap64, wrapu64, wrapu32, ← Int.natCast_add, ← Int.natCast_mul, cast_succ, wrapu32_nat, shr32, reps_wd, map_set_wd, List.length_set, zs_len, z0, z1, hga, hml, places, fillAll]
    refine W_drawnP [.n, .n, .p, .n, .n, .n, .n, .d, .d, .d, .d, .d, .d] hV (by decide +kernel) ?_
    simp (maxSteps := 4000000) only [go_sem, ↓reduceIte, Nat.reduceAdd, Nat.reduceSub, Nat.reduceMul, Nat.reduceEqDiff, reduceCtorEq, Int.reduceAdd, Int.reduceLT, Int.reduceLE, Int.reduceToNat, Int.reduceNeg, Int.reduceSub, ← List.map_take, ← List.map_drop, ne_eq, Nat.reduceLeDiff, Nat.reduceLT, Nat.zero_le, Nat.le_refl, wrap64, wrapu64, wrapu32, ← Int.natCast_add, ← Int.natCast_mul, cast_succ, wrapu32_nat, shr32, reps_wd, map_set_wd, List.length_set, zs_len, d1, z0, zb, hgb, hmlb, purify_lraw]
    rfl
  · obtain ⟨hf1, hf2⟩ := hf i (by omega)
    have w1 : IntKind.i64.wrap ((i + 1 : Nat) : Int) = ((i + 1 : Nat) : Int) := wrap64 (by omega) (by omega)
    obtain ⟨f, d1, _⟩ := dot_spec (A.getD i default).1 (A.getD i default).2 nx' X hr1 hX (by omega) (by omega) (by rw [hr2]; exact hf1) (by rw [hr2]; exact hf2)
    have hrx : dz (zg (A.getD i default).2) (zg X) (A.getD i default).2.length = rx A (zg X) i := rfl
    rw [hrx] at d1
    have hfr : (dg (rx A (zg X) i)).length ≤ 4096 := by rw [← hrx, hr2]; exact hf2 w (Nat.le_refl _)
    have c1 := exCmp_ret f (B.getD i default).2.1 (rx A (zg X) i) (zg B i) hfr (by unfold zg; omega)
    have hfin : ∀ (h' : Heap) (n' : Nat) (sl : List AV) (s : Bool), (∃ g : Nat → AV, sl = [g 0, lraw nb B, lraw nx' X, g 3, g 4, g 5, g 6, .bool s, g 8, g 9, mraw na A, .int .i64 (A.length : Int), .int .i64 ((i + 1 : Nat) : Int), g 13, g 14, g 15, g 16, g 17, g 18, g 19, g 20, g 21, g 22, g 23, g 24, g 25, g 26, g 27, g 28, g 29, g 30]) →
        ∃ k', k' < k ∧ ∃ (i : Nat) (s : Bool), (∃ g : Nat → AV, sl = [g 0, lraw nb B, lraw nx' X, g 3, g 4, g 5, g 6, .bool s, g 8, g 9, mraw na A, .int .i64 (A.length : Int), .int .i64 (i : Int), g 13, g 14, g 15, g 16, g 17, g 18, g 19, g 20, g 21, g 22, g 23, g 24, g 25, g 26, g 27, g 28, g 29, g 30]) ∧ i + k' = i0 := fun h' n' sl s hsl => ⟨k - 1, by omega, i + 1, s, hsl, by omega⟩
    generalize hIQ : (fun (k : Nat) (σ : St) => ∃ (i : Nat) (s : Bool), (∃ g : Nat → AV, σ.sl = [g 0, lraw nb B, lraw nx' X, g 3, g 4, g 5, g 6, .bool s, g 8, g 9, mraw na A, .int .i64 (A.length : Int), .int .i64 (i : Int), g 13, g 14, g 15, g 16, g 17, g 18, g 19, g 20, g 21, g 22, g 23, g 24, g 25, g 26, g 27, g 28, g 29, g 30]) ∧ i + k = i0) = IQ
    clear hrx hfr hf1 hf2 hr1 hr2 b1 b2 b3 b4 b5 hf hno
    have ezb : zv (B.getD i default) = zg B i := rfl
    rw [ezb] at hgb
    generalize rx A (zg X) i = r at *
    generalize zg B i = b at *
    generalize A.getD i default = R at *
    generalize B.getD i default = q at *
    generalize cmpI r b = c at *
    simp (maxSteps := 4000000) only [go_sem, ↓reduceIte, Nat.reduceAdd, Nat.reduceSub, Nat.reduceMul, Nat.reduceEqDiff, reduceCtorEq, Int.reduceAdd, Int.reduceLT, Int.reduceLE, Int.reduceToNat, Int.reduceNeg, Int.reduceSub, ← List.map_take, ← List.map_drop, ne_eq, Nat.reduceLeDiff, Nat.reduceLT, Nat.zero_le, Nat.le_refl, wrap64, wrapu64, wrapu32, ← Int.natCast_add, ← Int.natCast_mul, cast_succ, wrapu32_nat, shr32, reps_wd, map_set_wd, List.length_set, zs_len, z0, z1, hga, hml, places, fillAll]
    refine W_drawn ?_
    by_cases hc : c = 0
    · have hz : (c = 0) = True := eq_true hc
      clear hc
      simp (maxSteps := 4000000) only [go_sem, ↓reduceIte, Nat.reduceAdd, Nat.reduceSub, Nat.reduceMul, Nat.reduceEqDiff, reduceCtorEq, Int.reduceAdd, Int.reduceLT, Int.reduceLE, Int.reduceToNat, Int.reduceNeg, Int.reduceSub, ← List.map_take, ← List.map_drop, ne_eq, Nat.reduceLeDiff, Nat.reduceLT, Nat.zero_le, Nat.le_refl, wrap64, wrapu64, wrapu32, ← Int.natCast_add, ← Int.natCast_mul, cast_succ, wrapu32_nat, shr32, reps_wd, map_set_wd, List.length_set, zs_len, d1, c1, hz, z0, zb, hgb, hmlb, purify_lraw]
      refine ⟨by rfl, ?_⟩
      rw [w1, ← hIQ]
      exact hfin h nx _ _ (garb rfl)
    · have hz : (c = 0) = False := eq_false hc
      clear hc
      simp (maxSteps := 4000000) only [go_sem, ↓reduceIte, Nat.reduceAdd, Nat.reduceSub, Nat.reduceMul, Nat.reduceEqDiff, reduceCtorEq, Int.reduceAdd, Int.reduceLT, Int.reduceLE, Int.reduceToNat, Int.reduceNeg, Int.reduceSub, ← List.map_take, ← List.map_drop, ne_eq, Nat.reduceLeDiff, Nat.reduceLT, Nat.zero_le, Nat.le_refl, wrap64, wrapu64, wrapu32, ← Int.natCast_add, ← Int.natCast_mul, cast_succ, wrapu32_nat, shr32, reps_wd, map_set_wd, List.length_set, zs_len, d1, c1, hz, z0, zb, hgb, hmlb, purify_lraw]
      refine ⟨by rfl, ?_⟩
      rw [w1, ← hIQ]
      exact hfin h nx _ _ (garb rfl)
theorem holds_no (na : Bool) (A : Mat) (nb : Bool) (B : List Raw) (nx' : Bool) (X : List Raw) (w : Nat) (hA : MatV A w) (hB : AllV B) (hX : AllV X) (hAl : A.length ≤ B.length) (hAm : A.length < 1000000) (hw : w ≤ X.length) (hwm : w < 1000000) (hno : ¬ FitX A (zg X) w) :
    denP E 34 [mraw na A, lraw nb B, lraw nx' X] = some (.panic (Thr 4)) := by
  rcases fitX_cases A (zg X) w A.length with h | ⟨i0, h1, h2, h3⟩
  · exact absurd h hno
  · exact holds_pan na A nb B nx' X w hA hB hX hAl hAm hw hwm i0 h1 h2 h3
theorem holds1_pan (na : Bool) (A : Mat) (nb : Bool) (B : List Raw) (nx' : Bool) (X : List Raw) (hd : denP E 34 [mraw na A, lraw nb B, lraw nx' X] = some (.panic (Thr 4)))
    (pa pb px pi : Nat) (h : Heap) (nx : Nat) (ha : h pa = some (bx (mraw na A))) (hb : h pb = some (bx (lraw nb B))) (hx : h px = some (bx (lraw nx' X))) :
    denO E 33 [.ptr pa 0, .ptr pb 0, .ptr px 0, .ptr pi 0] h nx = some (.panic (Thr 4), h, nx) := by
  have key : ∃ v h' n', denO E 33 [.ptr pa 0, .ptr pb 0, .ptr px 0, .ptr pi 0] h nx = some (.panic v, h', n') ∧ v = Thr 4 ∧ h' = h ∧ n' = nx := by
    refine denO_pan E33 rfl ?_
    simp (maxSteps := 4000000) only [go_sem, ↓reduceIte, Nat.reduceAdd, Nat.reduceSub, Nat.reduceMul, Nat.reduceEqDiff, reduceCtorEq, Int.reduceAdd, Int.reduceLT, Int.reduceLE, Int.reduceToNat, Int.reduceNeg, Int.reduceSub, ← List.map_take, ← List.map_drop, ne_eq, Nat.reduceLeDiff, Nat.reduceLT, Nat.zero_le, Nat.le_refl, wrap64, wrapu64, wrapu32, ← Int.natCast_add, ← Int.natCast_mul, cast_succ, wrapu32_nat, shr32, reps_wd, map_set_wd, List.length_set, zs_len, Tryz.f33, ha, hb, hx, hd, purify_lraw, purify_mraw]
  obtain ⟨v, h', n', h1, rfl, rfl, rfl⟩ := key
  exact h1
/-- The error of a call that throws. -/
theorem try_rowP (g : Nat) (b : List AV) (hg : E.opn g = true) (e : Int) (h : Heap) (nx : Nat)
    (hd : ∀ (h1 : Heap), (∀ i, i < nx → h1 i = h i) → ∃ h' n', denO E g b h1 (nx + 1) = some (.panic (Thr e), h', n') ∧ nx + 1 ≤ n' ∧ h' nx = h1 nx) :
    ∃ H' N' h' n', denO E 32 [.fn g [] b] h nx = some (.ret (.int .i64 e), H', N') ∧ nx ≤ N' ∧ denO E g b (h.upd nx (some ⟨[.int .i64 0], false, 1, false⟩)) (nx + 1) = some (.panic (Thr e), h', n') ∧ ∀ i, i < nx → H' i = h' i := by
  obtain ⟨h', n', d1, d2, d3⟩ := hd (h.upd nx (some ⟨[.int .i64 0], false, 1, false⟩)) fun i hi => upd_ne (by omega)
  have k6 : h' nx = some ⟨[.int .i64 0], false, 1, false⟩ := d3.trans (if_pos rfl)
  obtain ⟨H', N', q1, q2, q3⟩ := try_pan g [] b hg e h h' nx n' d1 k6 (by omega)
  exact ⟨H', N', h', n', q1, by omega, d1, fun i h1 => q3 i (by omega) (by omega)⟩
theorem Holds_size (na : Bool) (A : Mat) (nb : Bool) (B : List Raw) (nx' : Bool) (X : List Raw) (hA : ShortM A) (hB : Short B) (iA : InM A) (iB : ∀ q ∈ B, InR q.2.2) (hX : Short X) (iX : ∀ q ∈ X, InR q.2.2) (h : sysB A B = true) (h2 : X.all okV = true) (h3 : X.length = (A.getD 0 default).2.length) (hf : ¬ FitX A (zg X) X.length) :
    denP E 8 [mraw na A, lraw nb B, lraw nx' X] = some (.ret (.tup [.bool false, .int .i64 4])) := by
  refine denP_eq E8 rfl (by simp [AV.pureL, AV.pure, pure_ivr, pure_lr]) ?_
  have s1 := sys_spec na A nb B hA hB iA iB
  have v1 := exValidL nx' X hX
  have hok := sys_ok iA iB h
  rw [h] at s1
  rw [h2] at v1
  have hd := holds_no na A nb B nx' X X.length (by rw [h3]; exact hok.mat) hok.vB (fun q hq => ⟨iX q hq, List.all_eq_true.1 h2 q hq⟩) (by have := hok.right; omega) (by have := hok.rows; omega) (Nat.le_refl _) (by rw [h3]; have := hok.cols; omega) hf
  have hg0 := get_lr (A := A) (i := 0) (by have := hok.rows; omega)
  have z00 : ((0 : Int) < (A.length : Int)) = True := eq_true (by have := hok.rows; omega)
  have hml : (A.map lr).length = A.length := List.length_map _
  have hml0 : ((A.getD 0 default).2.map ivr).length = (A.getD 0 default).2.length := List.length_map _
  have z1 : ((X.length : Int) = ((A.getD 0 default).2.length : Int)) = True := eq_true (by omega)
  generalize A.getD 0 default = R0 at *
  clear hf h3 hok h2 h
  simp (maxSteps := 4000000) only [go_sem, ↓reduceIte, Nat.reduceAdd, Nat.reduceSub, Nat.reduceMul, Nat.reduceEqDiff, reduceCtorEq, Int.reduceAdd, Int.reduceLT, Int.reduceLE, Int.reduceToNat, Int.reduceNeg, Int.reduceSub, ← List.map_take, ← List.map_drop, ne_eq, Nat.reduceLeDiff, Nat.reduceLT, Nat.zero_le, Nat.le_refl, wrap64, wrapu64, wrapu32, ← Int.natCast_add, ← Int.natCast_mul, cast_succ, wrapu32_nat, shr32, reps_wd, map_set_wd, List.length_set, zs_len, Tryz.f8, s1, v1, purify_lraw, purify_mraw, places, fillAll]
  refine W_drawn ?_
  simp (maxSteps := 4000000) only [go_sem, ↓reduceIte, Nat.reduceAdd, Nat.reduceSub, Nat.reduceMul, Nat.reduceEqDiff, reduceCtorEq, Int.reduceAdd, Int.reduceLT, Int.reduceLE, Int.reduceToNat, Int.reduceNeg, Int.reduceSub, ← List.map_take, ← List.map_drop, ne_eq, Nat.reduceLeDiff, Nat.reduceLT, Nat.zero_le, Nat.le_refl, wrap64, wrapu64, wrapu32, ← Int.natCast_add, ← Int.natCast_mul, cast_succ, wrapu32_nat, shr32, reps_wd, map_set_wd, List.length_set, zs_len, hg0, z00, hml, hml0, z1, Int.toNat_zero]
  refine ⟨by rfl, ?_⟩
  refine openK_int (e := 4) (fun H' _ => H' 3 = some (bx (.bool false))) ?_ ?_
  · have hr : ∀ H0 : Heap, H0 0 = some (bx (mraw na A)) → H0 1 = some (bx (lraw nb B)) → H0 2 = some (bx (lraw nx' X)) → H0 3 = some (bx (.bool false)) → ∃ H' N', denO E 32 [.fn 33 [] [.ptr 0 0, .ptr 1 0, .ptr 2 0, .ptr 3 0]] H0 4 = some (.ret (.int .i64 4), H', N') ∧ H' 3 = some (bx (.bool false)) := fun H0 c0 c1 c2 c3 => by
      have hp : ∀ h1 : Heap, (∀ i, i < 4 → h1 i = H0 i) → denO E 33 [.ptr 0 0, .ptr 1 0, .ptr 2 0, .ptr 3 0] h1 5 = some (.panic (Thr 4), h1, 5) := fun h1 hh => holds1_pan na A nb B nx' X hd 0 1 2 3 h1 5 ((hh 0 (by decide)).trans c0) ((hh 1 (by decide)).trans c1) ((hh 2 (by decide)).trans c2)
      obtain ⟨H', N', h', n', q1, q2, q3, q4⟩ := try_rowP 33 [.ptr 0 0, .ptr 1 0, .ptr 2 0, .ptr 3 0] rfl 4 H0 4 (fun h1 hh => ⟨h1, 5, hp h1 hh, by decide, rfl⟩)
      rw [hp _ fun i hi => upd_ne (by omega)] at q3
      obtain ⟨rfl, rfl⟩ : _ ∧ _ := by simpa using q3
      exact ⟨H', N', q1, (q4 3 (by decide)).trans ((upd_ne (by decide)).trans c3)⟩
    exact hr _ (by simp only [upd_apply, ↓reduceIte, Nat.reduceEqDiff, if_pos]) (by simp only [upd_apply, ↓reduceIte, Nat.reduceEqDiff, if_pos]) (by simp only [upd_apply, ↓reduceIte, Nat.reduceEqDiff, if_pos]) (by simp only [upd_apply, ↓reduceIte, Nat.reduceEqDiff, if_pos])
  intro H' N' k1
  clear hd s1 v1 hg0 hml hml0
  simp (maxSteps := 4000000) only [go_sem, ↓reduceIte, Nat.reduceAdd, Nat.reduceSub, Nat.reduceMul, Nat.reduceEqDiff, reduceCtorEq, Int.reduceAdd, Int.reduceLT, Int.reduceLE, Int.reduceToNat, Int.reduceNeg, Int.reduceSub, ← List.map_take, ← List.map_drop, ne_eq, Nat.reduceLeDiff, Nat.reduceLT, Nat.zero_le, Nat.le_refl, wrap64, wrapu64, wrapu32, ← Int.natCast_add, ← Int.natCast_mul, cast_succ, wrapu32_nat, shr32, reps_wd, map_set_wd, List.length_set, zs_len, k1, Int.reduceEq]
end Go.Proofs.YtnpomadbaanpkaaGreat

/- Walks: rows and columns exchanged. (Own work of this repo.) -/
namespace Go.Proofs.YtnpomadbaanpkaaGreat
open Vm
set_option maxRecDepth 10000

theorem reps_range (z : AV) : ∀ n, reps n [z] = (List.range n).map fun _ => z := by
  intro n
  rw [List.map_const', List.length_range]
  induction n with
  | zero => rfl
  | succ n ih => show [z] ++ reps n [z] = _; rw [ih]; rfl
theorem range_set {f : Nat → AV} {w k : Nat} {x : AV} : ((List.range w).map f).set k x = (List.range w).map fun j => if j = k then x else f j := by
  refine List.ext_getElem? fun i => ?_
  rw [List.getElem?_set, List.getElem?_map, List.getElem?_map]
  by_cases h : k = i
  · subst h
    rw [if_pos rfl]
    by_cases hw : k < w
    · rw [if_pos (by simpa using hw), List.getElem?_range hw]; simp
    · rw [if_neg (by simpa using hw), List.getElem?_eq_none (by simpa using hw)]; rfl
  · rw [if_neg h]
    by_cases hw : i < w
    · rw [List.getElem?_range hw]; simp [show ¬ i = k from fun e => h e.symm]
    · rw [List.getElem?_eq_none (by simpa using hw)]; rfl
theorem range_get {f : Nat → AV} {w k : Nat} (h : k < w) : ((List.range w).map f)[k]? = some (f k) := by
  rw [List.getElem?_map, List.getElem?_range h]; rfl
/-- A column that grows. -/
def colv (ids : Nat → Nat) (L : Nat → List Raw) (k : Nat) : AV := if (L k).length = 0 then .lst true [] else .ref (ids k) 0 (L k).length
structure CI (h : Heap) (nx c w lo : Nat) (ids : Nat → Nat) (L : Nat → List Raw) : Prop where
  row : h c = some ⟨(List.range w).map (colv ids L), false, 1, false⟩
  cl : lo ≤ c ∧ c < nx
  col : ∀ k, k < w → (L k).length ≠ 0 → lo ≤ ids k ∧ ids k < nx ∧ ids k ≠ c ∧ h (ids k) = some ⟨fr (L k), true, 2, false⟩
  inj : ∀ k k', k < w → k' < w → k ≠ k' → (L k).length ≠ 0 → (L k').length ≠ 0 → ids k ≠ ids k'
/-- A column takes a number. -/
theorem CI.push {h h' : Heap} {nx c w lo : Nat} {ids : Nat → Nat} {L : Nat → List Raw} (hI : CI h nx c w lo ids L) {k : Nat} (hk : k < w) {q : Raw} {id nx' : Nat} (h1 : nx ≤ id) (h2 : id < nx') (hc : h' c = some ⟨((List.range w).map (colv ids L)).set k (.ref id 0 ((L k).length + 1)), false, 1, false⟩)
    (hid : h' id = some ⟨fr (L k ++ [q]), true, 2, false⟩) (hot : ∀ i, lo ≤ i → i < nx → i ≠ c → i ≠ ids k ∨ (L k).length = 0 → h' i = h i) : CI h' nx' c w lo (fun j => if j = k then id else ids j) (fun j => if j = k then L k ++ [q] else L j) := by
  have hcl := hI.cl
  refine ⟨?_, by omega, fun j hj hl => ?_, fun j j' hj hj' hne hl hl' => ?_⟩
  · rw [hc, range_set]
    congr 2
    refine List.map_congr_left fun j _ => ?_
    unfold colv
    by_cases e : j = k
    · simp [e]
    · simp [e]
  · try dsimp only at hl ⊢
    by_cases e : j = k
    · rw [if_pos e, if_pos e]
      exact ⟨by omega, h2, by omega, hid⟩
    · rw [if_neg e] at hl ⊢
      rw [if_neg e]
      obtain ⟨g1, g2, g3, g4⟩ := hI.col j hj hl
      refine ⟨g1, by omega, g3, ?_⟩
      rw [hot (ids j) g1 g2 g3 ?_]
      · exact g4
      · by_cases hz : (L k).length = 0
        · exact .inr hz
        · exact .inl (hI.inj j k hj hk e hl hz)
  · try dsimp only at hl hl' ⊢
    by_cases e : j = k
    · have e' : ¬ j' = k := fun h => hne (e.trans h.symm)
      rw [if_pos e, if_neg e']
      rw [if_neg e'] at hl'
      have := hI.col j' hj' hl'
      omega
    · rw [if_neg e] at hl ⊢
      by_cases e' : j' = k
      · rw [if_pos e']
        have := hI.col j hj hl
        omega
      · rw [if_neg e'] at hl' ⊢
        exact hI.inj j j' hj hj' hne hl hl'
/-- The columns after i rows and t numbers of the next one. -/
def colL (A : Mat) (i t k : Nat) : List Raw := (List.range (if k < t then i + 1 else i)).map fun r => (A.getD r default).2.getD k default
theorem colL_push (A : Mat) (i t : Nat) : (fun j => if j = t then colL A i t t ++ [(A.getD i default).2.getD t default] else colL A i t j) = colL A i (t + 1) := by
  funext j
  unfold colL
  by_cases e : j = t
  · subst e
    rw [if_pos rfl, if_neg (Nat.lt_irrefl j), if_pos (Nat.lt_succ_self j), List.range_succ, List.map_append]
    rfl
  · rw [if_neg e]
    by_cases h : j < t
    · rw [if_pos h, if_pos (by omega)]
    · rw [if_neg h, if_neg (by omega)]
theorem colL_next (A : Mat) (i w : Nat) : ∀ k, k < w → colL A i w k = colL A (i + 1) 0 k := fun k hk => by
  unfold colL
  rw [if_pos hk, if_neg (Nat.not_lt_zero k)]
theorem colL_len (A : Mat) (i t k : Nat) : (colL A i t k).length = if k < t then i + 1 else i := by unfold colL; simp
theorem CI.congr {h : Heap} {nx c w lo : Nat} {ids : Nat → Nat} {L L' : Nat → List Raw} (hI : CI h nx c w lo ids L) (e : ∀ k, k < w → L k = L' k) : CI h nx c w lo ids L' := by
  refine ⟨?_, hI.cl, fun k hk hl => ?_, fun k k' hk hk' hne hl hl' => ?_⟩
  · rw [hI.row]
    congr 2
    refine List.map_congr_left fun k hk => ?_
    unfold colv
    rw [e k (List.mem_range.1 hk)]
  · rw [← e k hk] at hl ⊢; exact hI.col k hk hl
  · rw [← e k hk] at hl; rw [← e k' hk'] at hl'; exact hI.inj k k' hk hk' hne hl hl'
set_option maxHeartbeats 2000000 in
theorem turned_open (na : Bool) (A : Mat) (w : Nat) (hA : MatV A w) (h1 : 1 ≤ A.length) (hAm : A.length ≤ 100) (hw : w ≤ 100) (h0 : Heap) (lo : Nat) :
    ∃ (c n' : Nat) (h' : Heap) (ids : Nat → Nat), denO E 39 [mraw na A] h0 lo = some (.ret (.ref c 0 w), h', n') ∧ CI h' n' c w lo ids (colL A A.length 0) ∧ ∀ i, i < lo → h' i = h0 i := by
  have key : ∃ v h' n', denO E 39 [mraw na A] h0 lo = some (.ret v, h', n') ∧ (∃ c ids, v = .ref c 0 w ∧ CI h' n' c w lo ids (colL A A.length 0)) ∧ ∀ i, i < lo → h' i = h0 i := by
    refine denO_intro E39 rfl ?_
    have hg0 := get_lr (A := A) (i := 0) (by omega)
    have z00 : ((0 : Int) < (A.length : Int)) = True := eq_true (by omega)
    have hml : (A.map lr).length = A.length := List.length_map _
    have hml0 : ((A.getD 0 default).2.map ivr).length = w := by rw [List.length_map, (hA 0 (by omega)).2]
    have hwi : ((A.getD 0 default).2.length : Int) = (w : Int) := by rw [(hA 0 (by omega)).2]
    have zw0 : ((0 : Int) ≤ (w : Int)) = True := eq_true (by omega)
    have zw1 : ((w : Int) * 24 ≤ 281474976710656) = True := eq_true (by omega)
    have zw2 : ((w : Int) ≤ 9223372036854775807) = True := eq_true (by omega)
    simp (maxSteps := 4000000) only [go_sem, ↓reduceIte, Nat.reduceAdd, Nat.reduceSub, Nat.reduceMul, Nat.reduceEqDiff, reduceCtorEq, Int.reduceAdd, Int.reduceLT, Int.reduceLE, Int.reduceToNat, Int.reduceNeg, Int.reduceSub, ← List.map_take, ← List.map_drop, ne_eq, Nat.reduceLeDiff, Nat.reduceLT, Nat.zero_le, Nat.le_refl, wrap64, wrapu64, wrapu32, ← Int.natCast_add, ← Int.natCast_mul, cast_succ, wrapu32_nat, shr32, reps_wd, map_set_wd, List.length_set, zs_len, Tryz.f39, hg0, z00, hml, hml0, hwi, zw0, zw1, zw2, Int.le_refl, Int.toNat_zero, Int.toNat_natCast]
    clear hg0 hml0 hwi zw1 zw2
    refine W_loopS (fun k sl h nx => ∃ (i : Nat) (ids : Nat → Nat), (∃ g : Nat → AV, sl = [g 0, g 1, g 2, .ref lo 0 w, g 4, g 5, g 6, g 7, g 8, g 9, g 10, g 11, g 12, mraw na A, .int .i64 (A.length : Int), .int .i64 (i : Int), g 16, g 17, g 18, g 19, g 20, g 21, g 22, g 23, g 24, g 25, g 26, g 27, g 28, g 29, g 30, g 31, g 32, g 33, g 34, g 35, g 36, g 37, g 38]) ∧ i + k = A.length ∧ CI h nx lo w lo ids (colL A i 0) ∧ ∀ i, i < lo → h i = h0 i) A.length ⟨0, fun _ => 0, garb rfl, by omega, ⟨?_, ⟨Nat.le_refl _, Nat.lt_succ_self _⟩, fun k hk hl => ?_, fun k k' hk hk' hne hl => ?_⟩, fun i hi => ?_⟩ ?_
    · rw [reps_range]
      simp only [upd_apply, ↓reduceIte, Nat.reduceEqDiff, if_pos]
      congr 2
    · rw [colL_len] at hl; simp at hl
    · rw [colL_len] at hl; simp at hl
    · dsimp only; exact upd_ne (by omega)
    rintro k _ h nx ⟨i, ids, ⟨g, rfl⟩, hk, hI, hfr⟩
    by_cases hi : i = A.length
    · have z1 : ((i : Int) < (A.length : Int)) = False := eq_false (by omega)
      rw [hi] at hI
      simp (maxSteps := 4000000) only [go_sem, ↓reduceIte, Nat.reduceAdd, Nat.reduceSub, Nat.reduceMul, Nat.reduceEqDiff, reduceCtorEq, Int.reduceAdd, Int.reduceLT, Int.reduceLE, Int.reduceToNat, Int.reduceNeg, Int.reduceSub, ← List.map_take, ← List.map_drop, ne_eq, Nat.reduceLeDiff, Nat.reduceLT, Nat.zero_le, Nat.le_refl, wrap64, wrapu64, wrapu32, ← Int.natCast_add, ← Int.natCast_mul, cast_succ, wrapu32_nat, shr32, reps_wd, map_set_wd, List.length_set, zs_len, z1]
      exact ⟨⟨lo, ids, rfl, hI⟩, hfr⟩
    · have z1 : ((i : Int) < (A.length : Int)) = True := eq_true (by omega)
      have z0 : ((0 : Int) ≤ (i : Int)) = True := eq_true (by omega)
      have hg := get_lr (A := A) (i := i) (by omega)
      have w1 : IntKind.i64.wrap ((i + 1 : Nat) : Int) = ((i + 1 : Nat) : Int) := wrap64 (by omega) (by omega)
      have hRl := (hA i (by omega)).2
      have hRl' : ((A.getD i default).2.length : Int) = (w : Int) := by rw [hRl]
      have hmlR : ((A.getD i default).2.map ivr).length = w := by rw [List.length_map, hRl]
      have hout : ∀ (h' : Heap) (n' : Nat) (sl : List AV) (ids' : Nat → Nat), (∃ g : Nat → AV, sl = [g 0, g 1, g 2, .ref lo 0 w, g 4, g 5, g 6, g 7, g 8, g 9, g 10, g 11, g 12, mraw na A, .int .i64 (A.length : Int), .int .i64 ((i + 1 : Nat) : Int), g 16, g 17, g 18, g 19, g 20, g 21, g 22, g 23, g 24, g 25, g 26, g 27, g 28, g 29, g 30, g 31, g 32, g 33, g 34, g 35, g 36, g 37, g 38]) → CI h' n' lo w lo ids' (colL A i w) → (∀ i, i < lo → h' i = h0 i) →
          ∃ k', k' < k ∧ ∃ (i : Nat) (ids : Nat → Nat), (∃ g : Nat → AV, sl = [g 0, g 1, g 2, .ref lo 0 w, g 4, g 5, g 6, g 7, g 8, g 9, g 10, g 11, g 12, mraw na A, .int .i64 (A.length : Int), .int .i64 (i : Int), g 16, g 17, g 18, g 19, g 20, g 21, g 22, g 23, g 24, g 25, g 26, g 27, g 28, g 29, g 30, g 31, g 32, g 33, g 34, g 35, g 36, g 37, g 38]) ∧ i + k' = A.length ∧ CI h' n' lo w lo ids (colL A i 0) ∧ ∀ i, i < lo → h' i = h0 i := fun h' n' sl ids' c0 c1 c2 => ⟨k - 1, by omega, i + 1, ids', c0, by omega, c1.congr (colL_next A i w), c2⟩
      generalize hIQ : (fun (k : Nat) (σ : St) => ∃ (i : Nat) (ids : Nat → Nat), (∃ g : Nat → AV, σ.sl = [g 0, g 1, g 2, .ref lo 0 w, g 4, g 5, g 6, g 7, g 8, g 9, g 10, g 11, g 12, mraw na A, .int .i64 (A.length : Int), .int .i64 (i : Int), g 16, g 17, g 18, g 19, g 20, g 21, g 22, g 23, g 24, g 25, g 26, g 27, g 28, g 29, g 30, g 31, g 32, g 33, g 34, g 35, g 36, g 37, g 38]) ∧ i + k = A.length ∧ CI σ.h σ.nx lo w lo ids (colL A i 0) ∧ ∀ i, i < lo → σ.h i = h0 i) = IQ
      have hRget : ∀ t, t < w → ((A.getD i default).2.map ivr)[t]? = some (.agg [.bool ((A.getD i default).2.getD t default).1, .lst ((A.getD i default).2.getD t default).2.1 (((A.getD i default).2.getD t default).2.2.map wd)]) := fun t ht => get_ivr (by omega)
      simp (maxSteps := 4000000) only [go_sem, ↓reduceIte, Nat.reduceAdd, Nat.reduceSub, Nat.reduceMul, Nat.reduceEqDiff, reduceCtorEq, Int.reduceAdd, Int.reduceLT, Int.reduceLE, Int.reduceToNat, Int.reduceNeg, Int.reduceSub, ← List.map_take, ← List.map_drop, ne_eq, Nat.reduceLeDiff, Nat.reduceLT, Nat.zero_le, Nat.le_refl, wrap64, wrapu64, wrapu32, ← Int.natCast_add, ← Int.natCast_mul, cast_succ, wrapu32_nat, shr32, reps_wd, map_set_wd, List.length_set, zs_len, z0, z1, hg, hml, hRl', hmlR]
      refine W_loopS (fun k sl h nx => ∃ (t : Nat) (ids : Nat → Nat), (∃ g : Nat → AV, sl = [g 0, g 1, g 2, .ref lo 0 w, g 4, g 5, g 6, g 7, g 8, g 9, g 10, g 11, g 12, mraw na A, .int .i64 (A.length : Int), .int .i64 (i : Int), g 16, g 17, g 18, .lst (A.getD i default).1 ((A.getD i default).2.map ivr), .int .i64 (w : Int), .int .i64 (t : Int), g 22, g 23, g 24, g 25, g 26, g 27, g 28, g 29, g 30, g 31, g 32, g 33, g 34, g 35, g 36, g 37, g 38]) ∧ t + k = w ∧ CI h nx lo w lo ids (colL A i t) ∧ ∀ i, i < lo → h i = h0 i) w ⟨0, ids, garb rfl, by omega, hI, hfr⟩ ?_
      clear hI hfr
      rintro k2 _ h nx ⟨t, ids, ⟨g, rfl⟩, hk2, hI, hfr⟩
      by_cases ht : t = w
      · have z2 : ((t : Int) < (w : Int)) = False := eq_false (by omega)
        rw [ht] at hI
        simp (maxSteps := 4000000) only [go_sem, ↓reduceIte, Nat.reduceAdd, Nat.reduceSub, Nat.reduceMul, Nat.reduceEqDiff, reduceCtorEq, Int.reduceAdd, Int.reduceLT, Int.reduceLE, Int.reduceToNat, Int.reduceNeg, Int.reduceSub, ← List.map_take, ← List.map_drop, ne_eq, Nat.reduceLeDiff, Nat.reduceLT, Nat.zero_le, Nat.le_refl, wrap64, wrapu64, wrapu32, ← Int.natCast_add, ← Int.natCast_mul, cast_succ, wrapu32_nat, shr32, reps_wd, map_set_wd, List.length_set, zs_len, z2, w1]
        rw [← hIQ]
        exact hout _ _ _ ids (garb rfl) hI hfr
      · have z2 : ((t : Int) < (w : Int)) = True := eq_true (by omega)
        have z3 : ((0 : Int) ≤ (t : Int)) = True := eq_true (by omega)
        have w2 : IntKind.i64.wrap ((t + 1 : Nat) : Int) = ((t + 1 : Nat) : Int) := wrap64 (by omega) (by omega)
        have hgr := hRget t (by omega)
        have hcl := hI.cl
        have hrow := hI.row
        have hget := range_get (f := colv ids (colL A i t)) (w := w) (k := t) (by omega)
        have hpush := fun h' id nx' => CI.push (h' := h') (q := (A.getD i default).2.getD t default) (id := id) (nx' := nx') hI (k := t) (by omega)
        have hcol := hI.col t (by omega)
        have hll := colL_len A i t t
        rw [if_neg (Nat.lt_irrefl t)] at hll
        simp only [colL_push] at hpush
        rw [hll] at hpush hcol
        have hcv : colv ids (colL A i t) t = if i = 0 then .lst true [] else .ref (ids t) 0 i := by unfold colv; rw [hll]
        rw [hcv] at hget
        have hlr : ((List.range w).map (colv ids (colL A i t))).length = w := by simp
        have x1 : (lo = nx) = False := eq_false (by omega)
        have x2 : (nx = lo) = False := eq_false (by omega)
        have x3 : (lo = nx + 1) = False := eq_false (by omega)
        have x4 : (nx + 1 = lo) = False := eq_false (by omega)
        have x5 : (lo = nx + 1 + 1) = False := eq_false (by omega)
        have x6 : (nx + 1 + 1 = lo) = False := eq_false (by omega)
        have zt1 : (t + 1 ≤ w) = True := eq_true (by omega)
        have hfin2 : ∀ (h' : Heap) (n' : Nat) (sl : List AV) (ids' : Nat → Nat), (∃ g : Nat → AV, sl = [g 0, g 1, g 2, .ref lo 0 w, g 4, g 5, g 6, g 7, g 8, g 9, g 10, g 11, g 12, mraw na A, .int .i64 (A.length : Int), .int .i64 (i : Int), g 16, g 17, g 18, .lst (A.getD i default).1 ((A.getD i default).2.map ivr), .int .i64 (w : Int), .int .i64 ((t + 1 : Nat) : Int), g 22, g 23, g 24, g 25, g 26, g 27, g 28, g 29, g 30, g 31, g 32, g 33, g 34, g 35, g 36, g 37, g 38]) → CI h' n' lo w lo ids' (colL A i (t + 1)) → (∀ i, i < lo → h' i = h0 i) →
            ∃ k', k' < k2 ∧ ∃ (t : Nat) (ids : Nat → Nat), (∃ g : Nat → AV, sl = [g 0, g 1, g 2, .ref lo 0 w, g 4, g 5, g 6, g 7, g 8, g 9, g 10, g 11, g 12, mraw na A, .int .i64 (A.length : Int), .int .i64 (i : Int), g 16, g 17, g 18, .lst (A.getD i default).1 ((A.getD i default).2.map ivr), .int .i64 (w : Int), .int .i64 (t : Int), g 22, g 23, g 24, g 25, g 26, g 27, g 28, g 29, g 30, g 31, g 32, g 33, g 34, g 35, g 36, g 37, g 38]) ∧ t + k' = w ∧ CI h' n' lo w lo ids (colL A i t) ∧ ∀ i, i < lo → h' i = h0 i := fun h' n' sl ids' c0 c1 c2 => ⟨k2 - 1, by omega, t + 1, ids', c0, by omega, c1, c2⟩
        generalize hIQ2 : (fun (k : Nat) (σ : St) => ∃ (t : Nat) (ids : Nat → Nat), (∃ g : Nat → AV, σ.sl = [g 0, g 1, g 2, .ref lo 0 w, g 4, g 5, g 6, g 7, g 8, g 9, g 10, g 11, g 12, mraw na A, .int .i64 (A.length : Int), .int .i64 (i : Int), g 16, g 17, g 18, .lst (A.getD i default).1 ((A.getD i default).2.map ivr), .int .i64 (w : Int), .int .i64 (t : Int), g 22, g 23, g 24, g 25, g 26, g 27, g 28, g 29, g 30, g 31, g 32, g 33, g 34, g 35, g 36, g 37, g 38]) ∧ t + k = w ∧ CI σ.h σ.nx lo w lo ids (colL A i t) ∧ ∀ i, i < lo → σ.h i = h0 i) = IQ2
        clear hout hIQ hRget hI hcv
        generalize (A.getD i default).2.getD t default = q at *
        generalize hM : colL A i t t = M at *
        generalize hcells : (List.range w).map (colv ids (colL A i t)) = cells at *
        clear hcells
        have fin : ∀ (h' : Heap) (sl : List AV), (∃ g : Nat → AV, sl = [g 0, g 1, g 2, .ref lo 0 w, g 4, g 5, g 6, g 7, g 8, g 9, g 10, g 11, g 12, mraw na A, .int .i64 (A.length : Int), .int .i64 (i : Int), g 16, g 17, g 18, .lst (A.getD i default).1 ((A.getD i default).2.map ivr), .int .i64 (w : Int), .int .i64 ((t + 1 : Nat) : Int), g 22, g 23, g 24, g 25, g 26, g 27, g 28, g 29, g 30, g 31, g 32, g 33, g 34, g 35, g 36, g 37, g 38]) → h' lo = some ⟨cells.set t (.ref (nx + 1 + 1) 0 (i + 1)), false, 1, false⟩ → h' (nx + 1 + 1) = some ⟨fr M ++ fr [q], true, 2, false⟩ → (∀ j, j < nx → j ≠ lo → (j ≠ ids t ∨ i = 0) → h' j = h j) → ∃ k', k' < k2 ∧ IQ2 k' ⟨sl, h', nx + 1 + 1 + 1⟩ := fun h' sl c0 c1 c2 c3 => by
          rw [← hIQ2]
          refine hfin2 _ _ _ _ c0 (hpush h' (nx + 1 + 1) (nx + 1 + 1 + 1) (by omega) (by omega) c1 (by rw [c2, fr_app]) fun j j1 j2 j3 j4 => c3 j j2 j3 j4) fun j hj => ?_
          show h' j = h0 j
          rw [c3 j (by omega) (by omega) ?_]
          · exact hfr j hj
          · by_cases e : i = 0
            · exact .inr e
            · exact .inl (by have := hcol e; omega)
        clear hfin2 hpush hIQ2
        by_cases hi0 : i = 0
        · rw [if_pos hi0] at hget
          have hMn : M = [] := List.eq_nil_of_length_eq_zero (by rw [hll, hi0])
          have hmem1 : ((2 * 1 + 1000) * 32 ≤ 281474976710656) = True := eq_true (by omega)
          simp (maxSteps := 4000000) only [go_sem, ↓reduceIte, Nat.reduceAdd, Nat.reduceSub, Nat.reduceMul, Nat.reduceEqDiff, reduceCtorEq, Int.reduceAdd, Int.reduceLT, Int.reduceLE, Int.reduceToNat, Int.reduceNeg, Int.reduceSub, ← List.map_take, ← List.map_drop, ne_eq, Nat.reduceLeDiff, Nat.reduceLT, Nat.zero_le, Nat.le_refl, wrap64, wrapu64, wrapu32, ← Int.natCast_add, ← Int.natCast_mul, cast_succ, wrapu32_nat, shr32, reps_wd, map_set_wd, List.length_set, zs_len, z2, z3, hgr, hmlR]
          refine W_drawn ?_
          simp (maxSteps := 4000000) only [go_sem, ↓reduceIte, Nat.reduceAdd, Nat.reduceSub, Nat.reduceMul, Nat.reduceEqDiff, reduceCtorEq, Int.reduceAdd, Int.reduceLT, Int.reduceLE, Int.reduceToNat, Int.reduceNeg, Int.reduceSub, ← List.map_take, ← List.map_drop, ne_eq, Nat.reduceLeDiff, Nat.reduceLT, Nat.zero_le, Nat.le_refl, wrap64, wrapu64, wrapu32, ← Int.natCast_add, ← Int.natCast_mul, cast_succ, wrapu32_nat, shr32, reps_wd, map_set_wd, List.length_set, zs_len, z2, z3, hrow, hget, hlr, x1, x2, x3, x4, x5, x6, zt1, reps, places, fillAll, appendEff, srcCells, flat, hmem1]
          refine ⟨by refine okR_pairs ?_; (repeat ((with_unfolding_all refine And.intro ?_ ?_); (focus (rw [free_mk] <;> (try simp) <;> (try omega))))); (with_unfolding_all exact True.intro), ?_⟩
          rw [w2]
          refine fin _ _ (garb rfl) ?_ ?_ fun j j1 j2 j3 => ?_
          · rw [hi0]; simp only [upd_apply, ↓reduceIte, Nat.reduceEqDiff, if_pos]
          · rw [hMn]; simp only [upd_apply, ↓reduceIte, Nat.reduceEqDiff, x5, x6, if_pos]; rfl
          · simp only [upd_apply]
            rw [if_neg j2, if_neg (by omega), if_neg (by omega), if_neg (by omega), if_neg (by omega)]
        · rw [if_neg hi0] at hget
          obtain ⟨k1, k2', k3, k4⟩ := hcol hi0
          have hfl := fr_len M
          rw [hll] at hfl
          have hmem1 : ((2 * (i + 1) + 1000) * 32 ≤ 281474976710656) = True := eq_true (by omega)
          have y1 : (ids t = nx) = False := eq_false (by omega)
          have y2 : (nx = ids t) = False := eq_false (by omega)
          have y3 : (ids t = nx + 1) = False := eq_false (by omega)
          have y4 : (nx + 1 = ids t) = False := eq_false (by omega)
          have y5 : (ids t = nx + 1 + 1) = False := eq_false (by omega)
          have y6 : (nx + 1 + 1 = ids t) = False := eq_false (by omega)
          have y7 : (ids t = lo) = False := eq_false k3
          have y8 : (lo = ids t) = False := eq_false fun e => k3 e.symm
          generalize hid : ids t = id at *
          simp (maxSteps := 4000000) only [go_sem, ↓reduceIte, Nat.reduceAdd, Nat.reduceSub, Nat.reduceMul, Nat.reduceEqDiff, reduceCtorEq, Int.reduceAdd, Int.reduceLT, Int.reduceLE, Int.reduceToNat, Int.reduceNeg, Int.reduceSub, ← List.map_take, ← List.map_drop, ne_eq, Nat.reduceLeDiff, Nat.reduceLT, Nat.zero_le, Nat.le_refl, wrap64, wrapu64, wrapu32, ← Int.natCast_add, ← Int.natCast_mul, cast_succ, wrapu32_nat, shr32, reps_wd, map_set_wd, List.length_set, zs_len, z2, z3, hgr, hmlR]
          refine W_drawn ?_
          simp (maxSteps := 4000000) only [go_sem, ↓reduceIte, Nat.reduceAdd, Nat.reduceSub, Nat.reduceMul, Nat.reduceEqDiff, reduceCtorEq, Int.reduceAdd, Int.reduceLT, Int.reduceLE, Int.reduceToNat, Int.reduceNeg, Int.reduceSub, ← List.map_take, ← List.map_drop, ne_eq, Nat.reduceLeDiff, Nat.reduceLT, Nat.zero_le, Nat.le_refl, wrap64, wrapu64, wrapu32, ← Int.natCast_add, ← Int.natCast_mul, cast_succ, wrapu32_nat, shr32, reps_wd, map_set_wd, List.length_set, zs_len, z2, z3, hrow, hget, hlr, x1, x2, x3, x4, x5, x6, y1, y2, y3, y4, y5, y6, y7, y8, k4, hfl, zt1, reps, places, fillAll, appendEff, srcCells, flat, hmem1]
          refine ⟨by refine okR_pairs ?_; (repeat ((with_unfolding_all refine And.intro ?_ ?_); (focus (rw [free_mk] <;> (try simp) <;> (try omega))))); (with_unfolding_all exact True.intro), ?_⟩
          rw [w2]
          refine fin _ _ (garb rfl) ?_ ?_ fun j j1 j2 j3 => ?_
          · simp only [upd_apply, ↓reduceIte, Nat.reduceEqDiff, if_pos]
          · simp only [upd_apply, ↓reduceIte, Nat.reduceEqDiff, x5, x6, y5, y6, if_pos]; rfl
          · simp only [upd_apply]
            rw [if_neg j2, if_neg (by omega), if_neg (by rcases j3 with j3 | j3 <;> omega), if_neg (by omega), if_neg (by omega), if_neg (by omega)]
  obtain ⟨v, h', n', g1, ⟨c, ids, rfl, g2⟩, g3⟩ := key
  exact ⟨c, n', h', ids, g1, g2, g3⟩
end Go.Proofs.YtnpomadbaanpkaaGreat

/- Walks: Refutes. (Own work of this repo.) -/
namespace Go.Proofs.YtnpomadbaanpkaaGreat
open Vm
set_option maxRecDepth 10000

theorem exDivides (f g : Bool) (m x : Int) (hm : (dg m).length ≤ 4096) (hx : (dg x).length ≤ 4096) (hg : g = true → x = 0) : denP E 37 [I f m, I g x] = some (.ret (.bool (decide (x % m = 0)))) := by
  refine denP_eq E37 rfl (by simp [AV.pureL, AV.pure, pure_wd]) ?_
  have e1 := exZero f m
  have e2 := exZero g x
  by_cases h1 : m = 0
  · rw [decide_eq_true h1] at e1
    have e3 : decide (x % m = 0) = decide (x = 0) := by rw [h1, Int.emod_zero]
    rw [e3]
    clear h1 e3 hg
    generalize decide (x = 0) = d at *
    simp (maxSteps := 4000000) only [go_sem, ↓reduceIte, Nat.reduceAdd, Nat.reduceSub, Nat.reduceMul, Nat.reduceEqDiff, reduceCtorEq, Int.reduceAdd, Int.reduceLT, Int.reduceLE, Int.reduceToNat, Int.reduceNeg, Int.reduceSub, ← List.map_take, ← List.map_drop, ne_eq, Nat.reduceLeDiff, Nat.reduceLT, Nat.zero_le, Nat.le_refl, wrap64, wrapu64, wrapu32, ← Int.natCast_add, ← Int.natCast_mul, cast_succ, wrapu32_nat, shr32, reps_wd, map_set_wd, List.length_set, zs_len, Tryz.f37, e1, e2, places, fillAll]
  · rw [decide_eq_false h1] at e1
    by_cases h2 : x = 0
    · rw [decide_eq_true h2] at e2
      have e3 : decide (x % m = 0) = true := by rw [h2, Int.zero_emod]; rfl
      rw [e3]
      clear h1 h2 e3 hg
      simp (maxSteps := 4000000) only [go_sem, ↓reduceIte, Nat.reduceAdd, Nat.reduceSub, Nat.reduceMul, Nat.reduceEqDiff, reduceCtorEq, Int.reduceAdd, Int.reduceLT, Int.reduceLE, Int.reduceToNat, Int.reduceNeg, Int.reduceSub, ← List.map_take, ← List.map_drop, ne_eq, Nat.reduceLeDiff, Nat.reduceLT, Nat.zero_le, Nat.le_refl, wrap64, wrapu64, wrapu32, ← Int.natCast_add, ← Int.natCast_mul, cast_succ, wrapu32_nat, shr32, reps_wd, map_set_wd, List.length_set, zs_len, Tryz.f37, e1, e2, places, fillAll]
    · rw [decide_eq_false h2] at e2
      obtain ⟨q, d1, d2, d3⟩ := exDiv_ret g f x m hx hm h1 hg
      have e3 := exZero q.2 (x % m)
      clear h1 h2 d2 d3 hg
      generalize x % m = r at *
      generalize x / m = qq at *
      generalize decide (r = 0) = d at *
      simp (maxSteps := 4000000) only [go_sem, ↓reduceIte, Nat.reduceAdd, Nat.reduceSub, Nat.reduceMul, Nat.reduceEqDiff, reduceCtorEq, Int.reduceAdd, Int.reduceLT, Int.reduceLE, Int.reduceToNat, Int.reduceNeg, Int.reduceSub, ← List.map_take, ← List.map_drop, ne_eq, Nat.reduceLeDiff, Nat.reduceLT, Nat.zero_le, Nat.le_refl, wrap64, wrapu64, wrapu32, ← Int.natCast_add, ← Int.natCast_mul, cast_succ, wrapu32_nat, shr32, reps_wd, map_set_wd, List.length_set, zs_len, Tryz.f37, e1, e2, e3, d1, places, fillAll]
def colR (A : Mat) (k : Nat) : List Raw := colL A A.length 0 k
theorem colR_len (A : Mat) (k : Nat) : (colR A k).length = A.length := by unfold colR; rw [colL_len, if_neg (Nat.not_lt_zero k)]
theorem colR_get {A : Mat} {k r : Nat} (hr : r < A.length) : (colR A k).getD r default = (A.getD r default).2.getD k default := by
  unfold colR colL
  rw [if_neg (Nat.not_lt_zero k), List.getD_eq_getElem?_getD, List.getElem?_map, List.getElem?_range hr]
  rfl
theorem colR_zg {A : Mat} {k r : Nat} (hr : r < A.length) : zg (colR A k) r = rowz A r k := by unfold zg; rw [colR_get hr]; rfl
theorem colR_v {A : Mat} {w k : Nat} (hA : MatV A w) (hk : k < w) : AllV (colR A k) := by
  intro q hq
  obtain ⟨r, hr, rfl⟩ := List.getElem_of_mem hq
  have hr' : r < A.length := by rw [← colR_len A k]; exact hr
  have h1 : (colR A k)[r] = (A.getD r default).2.getD k default := by rw [← colR_get hr', List.getD_eq_getElem?_getD, List.getElem?_eq_getElem hr]; rfl
  rw [h1]
  exact (hA r hr').1.get (by rw [(hA r hr').2]; exact hk)
theorem dz_cong2 {a b a' b' : Nat → Int} : ∀ n, (∀ i, i < n → a i = a' i ∧ b i = b' i) → dz a b n = dz a' b' n
  | 0, _ => rfl
  | n + 1, h => by
    show dz a b n + a n * b n = dz a' b' n + a' n * b' n
    rw [dz_cong2 n fun i hi => h i (by omega), (h n (by omega)).1, (h n (by omega)).2]
theorem dzFit_congr {a b a' b' : Nat → Int} {n : Nat} (h : ∀ i, i < n → a i = a' i ∧ b i = b' i) : dzFit a b n → dzFit a' b' n := fun hf =>
  ⟨fun i hi => by rw [← (h i hi).1, ← (h i hi).2]; exact hf.1 i hi, fun i hi => by rw [← dz_cong2 i fun j hj => h j (by omega)]; exact hf.2 i hi⟩
/-- What Refutes finds behind k columns. -/
def rfB (A : Mat) (B Y : Nat → Int) (m : Int) : Nat → Bool
  | 0 => !decide (dz Y B A.length % m = 0)
  | k + 1 => decide (dz Y (fun r => rowz A r k) A.length % m = 0) && rfB A B Y m k
theorem openK_ref {Q : Ex → St → Prop} {σ : St} {all os : List Go.Oper} {dst : Option Nat} {x : Option (Res × Heap × Nat)} (P : AV → Heap → Nat → Prop) (hx : ∃ v H' N', x = some (.ret v, H', N') ∧ P v H' N') (k : ∀ v H' N', P v H' N' → Rg E all os ⟨put σ.sl dst v, H', N'⟩ Q) : openK E all os dst Q σ x := by
  obtain ⟨v, H', N', rfl, h1⟩ := hx
  exact k v H' N' h1
/-- What the closure of Refutes starts from. -/
structure RfIn (A : Mat) (B Y : List Raw) (w : Nat) (na nb ny fm : Bool) (m : Int) (pm py pb pi pa : Nat) (h : Heap) (nx : Nat) : Prop where
  mat : MatV A w
  row : 1 ≤ A.length ∧ A.length ≤ 100
  col : w ≤ 100
  vB : AllV B
  lB : B.length = A.length
  vY : AllV Y
  lY : Y.length = A.length
  lm : (dg m).length ≤ 4096
  ids : pm ≠ pi ∧ py ≠ pi ∧ pb ≠ pi ∧ pa ≠ pi ∧ pm < nx ∧ py < nx ∧ pb < nx ∧ pi < nx ∧ pa < nx
  hm : h pm = some ⟨[.bool (ng m), .lst fm ((dg m).map wd)], true, 2, false⟩
  hy : h py = some (bx (lraw ny Y))
  hb : h pb = some (bx (lraw nb B))
  hi : ∃ s, h pi = some (bx (.bool s))
  ha : h pa = some (bx (mraw na A))
theorem dotY (A : Mat) (w : Nat) (ny : Bool) (Y : List Raw) (hA : MatV A w) (hY : AllV Y) (hl : Y.length = A.length) (hAm : A.length ≤ 100) (k : Nat) (hk : k < w) (hf : dzFit (zg Y) (fun r => rowz A r k) A.length) :
    ∃ f : Bool, denP E 38 [lraw ny Y, lraw false (colR A k)] = some (.ret (I f (dz (zg Y) (fun r => rowz A r k) A.length))) ∧ (f = true → dz (zg Y) (fun r => rowz A r k) A.length = 0) := by
  have e : ∀ i, i < A.length → zg Y i = zg Y i ∧ rowz A i k = zg (colR A k) i := fun i hi => ⟨rfl, (colR_zg hi).symm⟩
  have hf' := dzFit_congr e hf
  obtain ⟨f, d1, d2⟩ := dot_spec ny Y false (colR A k) hY (colR_v hA hk) (by rw [colR_len]; omega) (by omega) (by rw [hl]; exact hf'.1) (by rw [hl]; exact hf'.2)
  rw [hl, dz_cong2 A.length fun i hi => ⟨rfl, colR_zg hi⟩] at d1 d2
  exact ⟨f, d1, d2⟩
theorem dotYno (A : Mat) (w : Nat) (ny : Bool) (Y : List Raw) (hA : MatV A w) (hY : AllV Y) (hl : Y.length = A.length) (hAm : A.length ≤ 100) (k : Nat) (hk : k < w) (hf : ¬ dzFit (zg Y) (fun r => rowz A r k) A.length) :
    denP E 38 [lraw ny Y, lraw false (colR A k)] = some (.panic (Thr 4)) := by
  refine dot_no ny Y false (colR A k) hY (colR_v hA hk) (by rw [colR_len]; omega) (by omega) ?_
  rw [hl]
  exact fun h => hf (dzFit_congr (fun i hi => ⟨rfl, colR_zg hi⟩) h)
/-- Both ways out of a function over the caller's heap. -/
def bothO (E : Env) (rs : List Go.ResultVar) (R : Res → Heap → Nat → Prop) : Ex → St → Prop
  | .ret, σ => resO (fun v => R (.ret v)) σ (resOf E σ.h σ.sl rs)
  | .norm, σ => resO (fun v => R (.ret v)) σ (resOf E σ.h σ.sl rs)
  | .panic x, σ => R (.panic x) σ.h σ.nx
  | _, _ => False
theorem bothO_ret {E : Env} {σ : St} {rs : List Go.ResultVar} {R : Res → Heap → Nat → Prop} : bothO E rs R .ret σ = resO (fun v => R (.ret v)) σ (resOf E σ.h σ.sl rs) := rfl
theorem bothO_norm {E : Env} {σ : St} {rs : List Go.ResultVar} {R : Res → Heap → Nat → Prop} : bothO E rs R .norm σ = resO (fun v => R (.ret v)) σ (resOf E σ.h σ.sl rs) := rfl
theorem bothO_panic {E : Env} {σ : St} {rs : List Go.ResultVar} {R : Res → Heap → Nat → Prop} {x : AV} : bothO E rs R (.panic x) σ = R (.panic x) σ.h σ.nx := rfl
theorem denO_both {E : Env} {f : Go.FuncId} {fn : Go.Func} {c : Go.Code} {args : List AV} {h : Heap} {nx : Nat} {R : Res → Heap → Nat → Prop} (hf : E.fn f = some fn) (hb : fn.body = some c)
    (hw : W E c ⟨args ++ List.replicate (fn.ntmps - args.length) Vm.undef, h, nx⟩ (bothO E fn.results.toList R)) : ∃ r h' nx', denO E f args h nx = some (r, h', nx') ∧ R r h' nx' := by
  obtain ⟨e, σ', hd, hq⟩ := hw
  unfold denO
  simp only [body, hf, hb, hd]
  have key : resO (fun v => R (.ret v)) σ' (resOf E σ'.h σ'.sl fn.results.toList) → ∃ vs, resOf E σ'.h σ'.sl fn.results.toList = some vs ∧ R (.ret (one vs)) σ'.h σ'.nx := by
    intro hr
    unfold resO at hr
    split at hr
    · rename_i vs h1; exact ⟨vs, h1, hr⟩
    · exact hr.elim
  cases e with
  | ret =>
    obtain ⟨vs, h1, h2⟩ := key hq
    exact ⟨_, _, _, by simp only [h1], h2⟩
  | norm =>
    obtain ⟨vs, h1, h2⟩ := key hq
    exact ⟨_, _, _, by simp only [h1], h2⟩
  | exit i => exact hq.elim
  | panic v => exact ⟨_, _, _, by simp only, hq⟩
set_option maxHeartbeats 2000000 in
/-- The columns, as far as all fits; and where it does not. -/
theorem refutes1_walk (A : Mat) (B Y : List Raw) (w : Nat) (na nb ny fm : Bool) (m : Int) (pm py pb pi pa : Nat) (h : Heap) (nx : Nat) (hI : RfIn A B Y w na nb ny fm m pm py pb pi pa h nx) (hfB : dzFit (zg Y) (zg B) A.length)
    (K : Nat) (hK : K ≤ w) (hfC : ∀ k, k < K → dzFit (zg Y) (fun r => rowz A r k) A.length) (hno : K < w → ¬ dzFit (zg Y) (fun r => rowz A r K) A.length) (R : Res → Heap → Nat → Prop)
    (hR1 : K = w → ∀ h' n', nx ≤ n' → h' pi = some (bx (.bool (rfB A (zg B) (zg Y) m w))) → (∀ i, i ≠ pi → i < nx → h' i = h i) → R (.ret (.tup [])) h' n')
    (hR2 : K < w → ∀ h' n', nx ≤ n' → (∃ s, h' pi = some (bx (.bool s))) → (∀ i, i ≠ pi → i < nx → h' i = h i) → R (.panic (Thr 4)) h' n') :
    ∃ r h' n', denO E 36 [.ptr pm 0, .ptr py 0, .ptr pb 0, .ptr pi 0, .ptr pa 0] h nx = some (r, h', n') ∧ R r h' n' := by
  obtain ⟨hA, ⟨h1, hAm⟩, hw, vB, lB, vY, lY, lm, ⟨n1, n2, n3, n4, b1, b2, b3, b4, b5⟩, em, ey, eb, ⟨s0, ei⟩, ea⟩ := hI
  have hV := thr_same 4
  refine denO_both E36 rfl ?_
  obtain ⟨f, d1, d2⟩ := dot_spec ny Y nb B vY vB (by omega) (by omega) (by rw [lY]; exact hfB.1) (by rw [lY]; exact hfB.2)
  rw [lY] at d1 d2
  have dv := exDivides fm f m (dz (zg Y) (zg B) A.length) lm (hfB.2 _ (Nat.le_refl _)) d2
  have hr0 : rfB A (zg B) (zg Y) m 0 = !decide (dz (zg Y) (zg B) A.length % m = 0) := rfl
  obtain ⟨D, hD⟩ : ∃ D, D = decide (dz (zg Y) (zg B) A.length % m = 0) := ⟨_, rfl⟩
  rw [← hD] at dv hr0
  clear hD d2
  generalize dz (zg Y) (zg B) A.length = z at *
  obtain ⟨QQ, hQQ⟩ : ∃ QQ : Ex → St → Prop, QQ = fun ex τ => ex = .norm ∧ (∃ g : Nat → AV, τ.sl = [.ptr pm 0, .ptr py 0, .ptr pb 0, .ptr pi 0, .ptr pa 0, g 5, g 6, g 7, g 8, g 9, g 10, g 11, g 12, g 13, g 14, g 15, g 16, g 17, g 18, g 19, g 20, g 21, g 22, g 23, g 24, g 25, g 26, g 27, g 28]) ∧ τ.nx = nx ∧ τ.h = h.upd pi (some (bx (.bool (rfB A (zg B) (zg Y) m 0)))) := ⟨_, rfl⟩
  have x1 : (pm = pi) = False := eq_false n1
  have x2 : (pi = pm) = False := eq_false fun e => n1 e.symm
  have x3 : (py = pi) = False := eq_false n2
  have x4 : (pi = py) = False := eq_false fun e => n2 e.symm
  have x5 : (pb = pi) = False := eq_false n3
  have x6 : (pi = pb) = False := eq_false fun e => n3 e.symm
  have x7 : (pa = pi) = False := eq_false n4
  have x8 : (pi = pa) = False := eq_false fun e => n4 e.symm
  simp (maxSteps := 4000000) only [go_sem, ↓reduceIte, Nat.reduceAdd, Nat.reduceSub, Nat.reduceMul, Nat.reduceEqDiff, reduceCtorEq, Int.reduceAdd, Int.reduceLT, Int.reduceLE, Int.reduceToNat, Int.reduceNeg, Int.reduceSub, ← List.map_take, ← List.map_drop, ne_eq, Nat.reduceLeDiff, Nat.reduceLT, Nat.zero_le, Nat.le_refl, wrap64, wrapu64, wrapu32, ← Int.natCast_add, ← Int.natCast_mul, cast_succ, wrapu32_nat, shr32, reps_wd, map_set_wd, List.length_set, zs_len, Tryz.f36, places, fillAll]
  refine W_mono (Q := QQ) ?_ ?_
  · refine W_drawn ?_
    cases D with
    | true =>
      simp (maxSteps := 4000000) only [go_sem, ↓reduceIte, Nat.reduceAdd, Nat.reduceSub, Nat.reduceMul, Nat.reduceEqDiff, reduceCtorEq, Int.reduceAdd, Int.reduceLT, Int.reduceLE, Int.reduceToNat, Int.reduceNeg, Int.reduceSub, ← List.map_take, ← List.map_drop, ne_eq, Nat.reduceLeDiff, Nat.reduceLT, Nat.zero_le, Nat.le_refl, wrap64, wrapu64, wrapu32, ← Int.natCast_add, ← Int.natCast_mul, cast_succ, wrapu32_nat, shr32, reps_wd, map_set_wd, List.length_set, zs_len, em, ey, eb, ei, d1, dv, x1, x2, x3, x4, x5, x6, purify_lraw, places, fillAll]
      refine ⟨by refine okR_pairs ?_; (repeat ((with_unfolding_all refine And.intro ?_ ?_); (focus (rw [free_mk] <;> (try simp) <;> (try omega))))); (with_unfolding_all exact True.intro), ?_⟩
      rw [hQQ, hr0]
      refine ⟨rfl, garb rfl, rfl, rfl⟩
    | false =>
      simp (maxSteps := 4000000) only [go_sem, ↓reduceIte, Nat.reduceAdd, Nat.reduceSub, Nat.reduceMul, Nat.reduceEqDiff, reduceCtorEq, Int.reduceAdd, Int.reduceLT, Int.reduceLE, Int.reduceToNat, Int.reduceNeg, Int.reduceSub, ← List.map_take, ← List.map_drop, ne_eq, Nat.reduceLeDiff, Nat.reduceLT, Nat.zero_le, Nat.le_refl, wrap64, wrapu64, wrapu32, ← Int.natCast_add, ← Int.natCast_mul, cast_succ, wrapu32_nat, shr32, reps_wd, map_set_wd, List.length_set, zs_len, em, ey, eb, ei, d1, dv, x1, x2, x3, x4, x5, x6, purify_lraw, places, fillAll]
      refine ⟨by refine okR_pairs ?_; (repeat ((with_unfolding_all refine And.intro ?_ ?_); (focus (rw [free_mk] <;> (try simp) <;> (try omega))))); (with_unfolding_all exact True.intro), ?_⟩
      rw [hQQ, hr0]
      refine ⟨rfl, garb rfl, rfl, rfl⟩
  rw [hQQ]
  clear hQQ QQ d1 dv hr0 hfB
  rintro ex ⟨sl, h', nn⟩ ⟨rfl, ⟨g, rfl⟩, hn0, hh0⟩
  dsimp only at hn0 hh0
  subst hn0
  subst hh0
  simp (maxSteps := 4000000) only [go_sem, ↓reduceIte, Nat.reduceAdd, Nat.reduceSub, Nat.reduceMul, Nat.reduceEqDiff, reduceCtorEq, Int.reduceAdd, Int.reduceLT, Int.reduceLE, Int.reduceToNat, Int.reduceNeg, Int.reduceSub, ← List.map_take, ← List.map_drop, ne_eq, Nat.reduceLeDiff, Nat.reduceLT, Nat.zero_le, Nat.le_refl, wrap64, wrapu64, wrapu32, ← Int.natCast_add, ← Int.natCast_mul, cast_succ, wrapu32_nat, shr32, reps_wd, map_set_wd, List.length_set, zs_len, ea, x7, x8, purify_mraw]
  obtain ⟨h0, hh0⟩ : ∃ h0, h0 = h.upd pi (some (bx (.bool (rfB A (zg B) (zg Y) m 0)))) := ⟨_, rfl⟩
  have ei0 : h0 pi = some (bx (.bool (rfB A (zg B) (zg Y) m 0))) := by rw [hh0]; exact if_pos rfl
  have hfr0 : ∀ i, i ≠ pi → h0 i = h i := fun i hi => by rw [hh0]; exact if_neg hi
  rw [← hh0]
  clear hh0 ei ea
  obtain ⟨c, n', h2, ids, t1, t2, t3⟩ := turned_open na A w hA h1 hAm hw h0 nn
  have em2 := (t3 pm b1).trans ((hfr0 pm n1).trans em)
  have ey2 := (t3 py b2).trans ((hfr0 py n2).trans ey)
  have ei2 := (t3 pi b4).trans ei0
  have hcl := t2.cl
  have hrow0 := t2.row
  simp (maxSteps := 4000000) only [go_sem, ↓reduceIte, Nat.reduceAdd, Nat.reduceSub, Nat.reduceMul, Nat.reduceEqDiff, reduceCtorEq, Int.reduceAdd, Int.reduceLT, Int.reduceLE, Int.reduceToNat, Int.reduceNeg, Int.reduceSub, ← List.map_take, ← List.map_drop, ne_eq, Nat.reduceLeDiff, Nat.reduceLT, Nat.zero_le, Nat.le_refl, wrap64, wrapu64, wrapu32, ← Int.natCast_add, ← Int.natCast_mul, cast_succ, wrapu32_nat, shr32, reps_wd, map_set_wd, List.length_set, zs_len, t1, openK_ret, hrow0]
  clear t1 em ey eb ei0
  refine W_loopS (fun kk sl hh nn' => ∃ (k : Nat), (∃ g : Nat → AV, sl = [.ptr pm 0, .ptr py 0, g 2, .ptr pi 0, g 4, g 5, g 6, g 7, g 8, g 9, g 10, g 11, g 12, g 13, .ref c 0 w, .int .i64 (w : Int), .int .i64 (k : Int), g 17, g 18, g 19, g 20, g 21, g 22, g 23, g 24, g 25, g 26, g 27, g 28]) ∧ k + kk = K ∧ n' ≤ nn' ∧ hh pi = some (bx (.bool (rfB A (zg B) (zg Y) m k))) ∧ (∀ i, i ≠ pi → i < nn → hh i = h2 i) ∧ hh c = h2 c ∧ ∀ j, j < w → ∃ fz, hh (ids j) = some ⟨fr (colR A j), true, 2, fz⟩) K ⟨0, garb rfl, by omega, Nat.le_refl _, ei2, fun i i1 i2 => ?_, ?_, fun j hj => ?_⟩ ?_
  · rfl
  · rfl
  · exact ⟨false, (t2.col j hj (by rw [colL_len, if_neg (Nat.not_lt_zero j)]; omega)).2.2.2⟩
  rintro kk _ hh nn' ⟨k, ⟨g2, rfl⟩, hkk, hnn, ei3, hfr, hfc, hcols⟩
  have hframe : ∀ i, i ≠ pi → i < nn → hh i = h i := fun i i1 i2 => (hfr i i1 i2).trans ((t3 i i2).trans (hfr0 i i1))
  by_cases hkw : k = w
  · have z1 : ((k : Int) < (w : Int)) = False := eq_false (by omega)
    rw [hkw] at ei3
    have hR := hR1 (by omega) hh nn' (by omega) ei3 hframe
    clear hR1 hR2
    simp (maxSteps := 4000000) only [go_sem, ↓reduceIte, Nat.reduceAdd, Nat.reduceSub, Nat.reduceMul, Nat.reduceEqDiff, reduceCtorEq, Int.reduceAdd, Int.reduceLT, Int.reduceLE, Int.reduceToNat, Int.reduceNeg, Int.reduceSub, ← List.map_take, ← List.map_drop, ne_eq, Nat.reduceLeDiff, Nat.reduceLT, Nat.zero_le, Nat.le_refl, wrap64, wrapu64, wrapu32, ← Int.natCast_add, ← Int.natCast_mul, cast_succ, wrapu32_nat, shr32, reps_wd, map_set_wd, List.length_set, zs_len, z1, bothO_norm]
    exact hR
  have z1 : ((k : Int) < (w : Int)) = True := eq_true (by omega)
  have z0 : ((0 : Int) ≤ (k : Int)) = True := eq_true (by omega)
  have w1 : IntKind.i64.wrap ((k + 1 : Nat) : Int) = ((k + 1 : Nat) : Int) := wrap64 (by omega) (by omega)
  obtain ⟨c1, c2, c3, c4⟩ := t2.col k (by omega) (by rw [colL_len, if_neg (Nat.not_lt_zero k)]; omega)
  have hcv : colv ids (colL A A.length 0) k = .ref (ids k) 0 A.length := by unfold colv; rw [colL_len, if_neg (Nat.not_lt_zero k), if_neg (by omega)]
  have hg := range_get (f := colv ids (colL A A.length 0)) (show k < w by omega)
  rw [hcv] at hg
  have hlr : ((List.range w).map (colv ids (colL A A.length 0))).length = w := by simp
  have hrow := hfc.trans t2.row
  obtain ⟨fz, hcol⟩ := hcols k (by omega)
  have em3 := (hfr pm n1 (by omega)).trans em2
  have ey3 := (hfr py n2 (by omega)).trans ey2
  have hrf := fun (n : Nat) (H : Heap) => refP_fr (n := n) (H := H) (id := ids k) (fz := fz) (colR_len A k)
  have zk1 : (k + 1 ≤ w) = True := eq_true (by omega)
  have y1 : (c = pi) = False := eq_false (by omega)
  have y2 : (pi = c) = False := eq_false (by omega)
  have y3 : (ids k = pi) = False := eq_false (by omega)
  have y4 : (pi = ids k) = False := eq_false (by omega)
  by_cases hkK : k = K
  · have dn := dotYno A w ny Y hA vY lY hAm k (by omega) (by rw [hkK]; exact hno (by omega))
    have hR := fun n'' (hn : nn' ≤ n'') => hR2 (by omega) hh n'' (by omega) ⟨_, ei3⟩ hframe
    clear hR1 hR2 hfC hno hframe hcv
    generalize ids k = id at *
    generalize colR A k = col at *
    simp (maxSteps := 4000000) only [go_sem, ↓reduceIte, Nat.reduceAdd, Nat.reduceSub, Nat.reduceMul, Nat.reduceEqDiff, reduceCtorEq, Int.reduceAdd, Int.reduceLT, Int.reduceLE, Int.reduceToNat, Int.reduceNeg, Int.reduceSub, ← List.map_take, ← List.map_drop, ne_eq, Nat.reduceLeDiff, Nat.reduceLT, Nat.zero_le, Nat.le_refl, wrap64, wrapu64, wrapu32, ← Int.natCast_add, ← Int.natCast_mul, cast_succ, wrapu32_nat, shr32, reps_wd, map_set_wd, List.length_set, zs_len, z0, z1, hrow, hg, hlr, zk1]
    refine W_drawnP [.n, .n, .n, .p, .d, .d, .d, .d, .d] hV (by decide +kernel) ?_
    simp (maxSteps := 4000000) only [go_sem, ↓reduceIte, Nat.reduceAdd, Nat.reduceSub, Nat.reduceMul, Nat.reduceEqDiff, reduceCtorEq, Int.reduceAdd, Int.reduceLT, Int.reduceLE, Int.reduceToNat, Int.reduceNeg, Int.reduceSub, ← List.map_take, ← List.map_drop, ne_eq, Nat.reduceLeDiff, Nat.reduceLT, Nat.zero_le, Nat.le_refl, wrap64, wrapu64, wrapu32, ← Int.natCast_add, ← Int.natCast_mul, cast_succ, wrapu32_nat, shr32, reps_wd, map_set_wd, List.length_set, zs_len, em3, ey3, ei3, hcol, hrf, dn, x1, x2, x3, x4, y1, y2, y3, y4, purify_lraw, places, fillAll]
    refine ⟨by rfl, ?_⟩
    rw [bothO_panic]
    exact hR _ (by dsimp only; omega)
  · have hf1 := hfC k (by omega)
    obtain ⟨f, d1, d2⟩ := dotY A w ny Y hA vY lY hAm k (by omega) hf1
    have dv := exDivides fm f m (dz (zg Y) (fun r => rowz A r k) A.length) lm (hf1.2 _ (Nat.le_refl _)) d2
    have hrs : rfB A (zg B) (zg Y) m (k + 1) = (decide (dz (zg Y) (fun r => rowz A r k) A.length % m = 0) && rfB A (zg B) (zg Y) m k) := rfl
    have hfin : ∀ (H : Heap) (N : Nat) (sl : List AV), (∃ g : Nat → AV, sl = [.ptr pm 0, .ptr py 0, g 2, .ptr pi 0, g 4, g 5, g 6, g 7, g 8, g 9, g 10, g 11, g 12, g 13, .ref c 0 w, .int .i64 (w : Int), .int .i64 ((k + 1 : Nat) : Int), g 17, g 18, g 19, g 20, g 21, g 22, g 23, g 24, g 25, g 26, g 27, g 28]) → n' ≤ N → H pi = some (bx (.bool (rfB A (zg B) (zg Y) m (k + 1)))) → (∀ i, i ≠ pi → i ≠ ids k → H i = hh i) → H (ids k) = some ⟨fr (colR A k), true, 2, true⟩ →
        ∃ kk', kk' < kk ∧ ∃ (k : Nat), (∃ g : Nat → AV, sl = [.ptr pm 0, .ptr py 0, g 2, .ptr pi 0, g 4, g 5, g 6, g 7, g 8, g 9, g 10, g 11, g 12, g 13, .ref c 0 w, .int .i64 (w : Int), .int .i64 (k : Int), g 17, g 18, g 19, g 20, g 21, g 22, g 23, g 24, g 25, g 26, g 27, g 28]) ∧ k + kk' = K ∧ n' ≤ N ∧ H pi = some (bx (.bool (rfB A (zg B) (zg Y) m k))) ∧ (∀ i, i ≠ pi → i < nn → H i = h2 i) ∧ H c = h2 c ∧ ∀ j, j < w → ∃ fz, H (ids j) = some ⟨fr (colR A j), true, 2, fz⟩ := fun H N sl a0 a1 a2 a3 a4 => ⟨kk - 1, by omega, k + 1, a0, by omega, a1, a2, fun i i1 i2 => (a3 i i1 (by omega)).trans (hfr i i1 i2), (a3 c (by omega) (by omega)).trans hfc, fun j hj => by
          by_cases e : j = k
          · exact ⟨true, by rw [e]; exact a4⟩
          · obtain ⟨d1, d2, d3, d4⟩ := t2.col j hj (by rw [colL_len, if_neg (Nat.not_lt_zero j)]; omega)
            obtain ⟨fz, hc⟩ := hcols j hj
            exact ⟨fz, (a3 (ids j) (by omega) (t2.inj j k hj (by omega) e (by rw [colL_len, if_neg (Nat.not_lt_zero j)]; omega) (by rw [colL_len, if_neg (Nat.not_lt_zero k)]; omega))).trans hc⟩⟩
    generalize hIQ : (fun (kk : Nat) (σ : St) => ∃ (k : Nat), (∃ g : Nat → AV, σ.sl = [.ptr pm 0, .ptr py 0, g 2, .ptr pi 0, g 4, g 5, g 6, g 7, g 8, g 9, g 10, g 11, g 12, g 13, .ref c 0 w, .int .i64 (w : Int), .int .i64 (k : Int), g 17, g 18, g 19, g 20, g 21, g 22, g 23, g 24, g 25, g 26, g 27, g 28]) ∧ k + kk = K ∧ n' ≤ σ.nx ∧ σ.h pi = some (bx (.bool (rfB A (zg B) (zg Y) m k))) ∧ (∀ i, i ≠ pi → i < nn → σ.h i = h2 i) ∧ σ.h c = h2 c ∧ ∀ j, j < w → ∃ fz, σ.h (ids j) = some ⟨fr (colR A j), true, 2, fz⟩) = IQ
    rw [hrs] at hfin
    obtain ⟨D, hD⟩ : ∃ D, D = decide (dz (zg Y) (fun r => rowz A r k) A.length % m = 0) := ⟨_, rfl⟩
    rw [← hD] at dv hfin
    clear hR1 hR2 hfC hno hframe hcv hD d2 hrs hf1
    generalize hid : ids k = id at *
    generalize colR A k = col at *
    generalize dz (zg Y) (fun r => rowz A r k) A.length = z at *
    generalize rfB A (zg B) (zg Y) m k = s at *
    simp (maxSteps := 4000000) only [go_sem, ↓reduceIte, Nat.reduceAdd, Nat.reduceSub, Nat.reduceMul, Nat.reduceEqDiff, reduceCtorEq, Int.reduceAdd, Int.reduceLT, Int.reduceLE, Int.reduceToNat, Int.reduceNeg, Int.reduceSub, ← List.map_take, ← List.map_drop, ne_eq, Nat.reduceLeDiff, Nat.reduceLT, Nat.zero_le, Nat.le_refl, wrap64, wrapu64, wrapu32, ← Int.natCast_add, ← Int.natCast_mul, cast_succ, wrapu32_nat, shr32, reps_wd, map_set_wd, List.length_set, zs_len, z0, z1, hrow, hg, hlr, zk1]
    refine W_drawn ?_
    cases D with
    | true =>
      simp (maxSteps := 4000000) only [go_sem, ↓reduceIte, Nat.reduceAdd, Nat.reduceSub, Nat.reduceMul, Nat.reduceEqDiff, reduceCtorEq, Int.reduceAdd, Int.reduceLT, Int.reduceLE, Int.reduceToNat, Int.reduceNeg, Int.reduceSub, ← List.map_take, ← List.map_drop, ne_eq, Nat.reduceLeDiff, Nat.reduceLT, Nat.zero_le, Nat.le_refl, wrap64, wrapu64, wrapu32, ← Int.natCast_add, ← Int.natCast_mul, cast_succ, wrapu32_nat, shr32, reps_wd, map_set_wd, List.length_set, zs_len, em3, ey3, ei3, hcol, hrf, d1, dv, x1, x2, x3, x4, y1, y2, y3, y4, purify_lraw, places, fillAll]
      refine ⟨by refine okR_pairs ?_; (repeat ((with_unfolding_all refine And.intro ?_ ?_); (focus (rw [free_mk] <;> (try simp) <;> (try omega))))); (with_unfolding_all exact True.intro), ?_⟩
      rw [w1, ← hIQ]
      refine hfin _ _ _ (garb rfl) (by dsimp only; omega) ?_ (fun i i1 i2 => ?_) ?_
      · simp only [upd_apply, ↓reduceIte, Nat.reduceEqDiff, if_pos]; rfl
      · exact (upd_ne i1).trans (upd_ne i2)
      · exact (upd_ne (by omega)).trans (if_pos rfl)
    | false =>
      simp (maxSteps := 4000000) only [go_sem, ↓reduceIte, Nat.reduceAdd, Nat.reduceSub, Nat.reduceMul, Nat.reduceEqDiff, reduceCtorEq, Int.reduceAdd, Int.reduceLT, Int.reduceLE, Int.reduceToNat, Int.reduceNeg, Int.reduceSub, ← List.map_take, ← List.map_drop, ne_eq, Nat.reduceLeDiff, Nat.reduceLT, Nat.zero_le, Nat.le_refl, wrap64, wrapu64, wrapu32, ← Int.natCast_add, ← Int.natCast_mul, cast_succ, wrapu32_nat, shr32, reps_wd, map_set_wd, List.length_set, zs_len, em3, ey3, ei3, hcol, hrf, d1, dv, x1, x2, x3, x4, y1, y2, y3, y4, purify_lraw, places, fillAll]
      refine ⟨by refine okR_pairs ?_; (repeat ((with_unfolding_all refine And.intro ?_ ?_); (focus (rw [free_mk] <;> (try simp) <;> (try omega))))); (with_unfolding_all exact True.intro), ?_⟩
      rw [w1, ← hIQ]
      refine hfin _ _ _ (garb rfl) (by dsimp only; omega) ?_ (fun i i1 i2 => ?_) ?_
      · simp only [upd_apply, ↓reduceIte, Nat.reduceEqDiff, if_pos]; rfl
      · exact (upd_ne i1).trans (upd_ne i2)
      · exact (upd_ne (by omega)).trans (if_pos rfl)
end Go.Proofs.YtnpomadbaanpkaaGreat

/- Walks: Refutes, the whole. (Own work of this repo.) -/
namespace Go.Proofs.YtnpomadbaanpkaaGreat
open Vm
set_option maxRecDepth 10000

theorem refutes1_ret (A : Mat) (B Y : List Raw) (w : Nat) (na nb ny fm : Bool) (m : Int) (pm py pb pi pa : Nat) (h : Heap) (nx : Nat) (hI : RfIn A B Y w na nb ny fm m pm py pb pi pa h nx) (hfB : dzFit (zg Y) (zg B) A.length) (hfC : ∀ k, k < w → dzFit (zg Y) (fun r => rowz A r k) A.length) :
    ∃ h' n', denO E 36 [.ptr pm 0, .ptr py 0, .ptr pb 0, .ptr pi 0, .ptr pa 0] h nx = some (.ret (.tup []), h', n') ∧ nx ≤ n' ∧ h' pi = some (bx (.bool (rfB A (zg B) (zg Y) m w))) ∧ ∀ i, i ≠ pi → i < nx → h' i = h i := by
  obtain ⟨r, h', n', d, rfl, h1, h2, h3⟩ := refutes1_walk A B Y w na nb ny fm m pm py pb pi pa h nx hI hfB w (Nat.le_refl _) hfC (fun e => absurd e (Nat.lt_irrefl _)) (fun r h' n' => r = .ret (.tup []) ∧ nx ≤ n' ∧ h' pi = some (bx (.bool (rfB A (zg B) (zg Y) m w))) ∧ ∀ i, i ≠ pi → i < nx → h' i = h i) (fun _ h' n' a1 a2 a3 => ⟨rfl, a1, a2, a3⟩) (fun e => absurd e (Nat.lt_irrefl _))
  exact ⟨h', n', d, h1, h2, h3⟩
theorem fitC_cases (A : Mat) (Y : Nat → Int) (n : Nat) : ∀ w, (∀ k, k < w → dzFit Y (fun r => rowz A r k) n) ∨ ∃ K, K < w ∧ (∀ k, k < K → dzFit Y (fun r => rowz A r k) n) ∧ ¬ dzFit Y (fun r => rowz A r K) n
  | 0 => .inl fun k hk => absurd hk (Nat.not_lt_zero k)
  | w + 1 => by
    rcases fitC_cases A Y n w with h | ⟨K, h1, h2⟩
    · by_cases hn : dzFit Y (fun r => rowz A r w) n
      · refine .inl fun k hk => ?_
        by_cases e : k = w
        · rw [e]; exact hn
        · exact h k (by omega)
      · exact .inr ⟨w, Nat.lt_succ_self w, h, hn⟩
    · exact .inr ⟨K, by omega, h2⟩
theorem refutes1_pan (A : Mat) (B Y : List Raw) (w : Nat) (na nb ny fm : Bool) (m : Int) (pm py pb pi pa : Nat) (h : Heap) (nx : Nat) (hI : RfIn A B Y w na nb ny fm m pm py pb pi pa h nx) (hno : ¬ (dzFit (zg Y) (zg B) A.length ∧ ∀ k, k < w → dzFit (zg Y) (fun r => rowz A r k) A.length)) :
    ∃ h' n', denO E 36 [.ptr pm 0, .ptr py 0, .ptr pb 0, .ptr pi 0, .ptr pa 0] h nx = some (.panic (Thr 4), h', n') ∧ nx ≤ n' ∧ (∃ s, h' pi = some (bx (.bool s))) ∧ ∀ i, i ≠ pi → i < nx → h' i = h i := by
  by_cases hfB : dzFit (zg Y) (zg B) A.length
  · rcases fitC_cases A (zg Y) A.length w with hf | ⟨K, h1, h2, h3⟩
    · exact absurd ⟨hfB, hf⟩ hno
    · obtain ⟨r, h', n', d, rfl, h1, h2, h3⟩ := refutes1_walk A B Y w na nb ny fm m pm py pb pi pa h nx hI hfB K (Nat.le_of_lt h1) h2 (fun _ => h3) (fun r h' n' => r = .panic (Thr 4) ∧ nx ≤ n' ∧ (∃ s, h' pi = some (bx (.bool s))) ∧ ∀ i, i ≠ pi → i < nx → h' i = h i) (fun e => absurd h1 (by omega)) (fun _ h' n' a1 a2 a3 => ⟨rfl, a1, a2, a3⟩)
      exact ⟨h', n', d, h1, h2, h3⟩
  · obtain ⟨hA, ⟨h1, hAm⟩, hw, vB, lB, vY, lY, lm, ⟨n1, n2, n3, n4, b1, b2, b3, b4, b5⟩, em, ey, eb, ⟨s0, ei⟩, ea⟩ := hI
    have hV := thr_same 4
    have dn := dot_no ny Y nb B vY vB (by omega) (by omega) (by rw [lY]; exact hfB)
    have key : ∃ v h' n', denO E 36 [.ptr pm 0, .ptr py 0, .ptr pb 0, .ptr pi 0, .ptr pa 0] h nx = some (.panic v, h', n') ∧ v = Thr 4 ∧ nx ≤ n' ∧ (∃ s, h' pi = some (bx (.bool s))) ∧ ∀ i, i ≠ pi → i < nx → h' i = h i := by
      refine denO_pan E36 rfl ?_
      simp (maxSteps := 4000000) only [go_sem, ↓reduceIte, Nat.reduceAdd, Nat.reduceSub, Nat.reduceMul, Nat.reduceEqDiff, reduceCtorEq, Int.reduceAdd, Int.reduceLT, Int.reduceLE, Int.reduceToNat, Int.reduceNeg, Int.reduceSub, ← List.map_take, ← List.map_drop, ne_eq, Nat.reduceLeDiff, Nat.reduceLT, Nat.zero_le, Nat.le_refl, wrap64, wrapu64, wrapu32, ← Int.natCast_add, ← Int.natCast_mul, cast_succ, wrapu32_nat, shr32, reps_wd, map_set_wd, List.length_set, zs_len, Tryz.f36, places, fillAll]
      refine W_drawnP [.n, .n, .n, .p, .d, .d, .d] hV (by decide +kernel) ?_
      simp (maxSteps := 4000000) only [go_sem, ↓reduceIte, Nat.reduceAdd, Nat.reduceSub, Nat.reduceMul, Nat.reduceEqDiff, reduceCtorEq, Int.reduceAdd, Int.reduceLT, Int.reduceLE, Int.reduceToNat, Int.reduceNeg, Int.reduceSub, ← List.map_take, ← List.map_drop, ne_eq, Nat.reduceLeDiff, Nat.reduceLT, Nat.zero_le, Nat.le_refl, wrap64, wrapu64, wrapu32, ← Int.natCast_add, ← Int.natCast_mul, cast_succ, wrapu32_nat, shr32, reps_wd, map_set_wd, List.length_set, zs_len, em, ey, eb, ei, dn, purify_lraw, places, fillAll]
      exact ⟨rfl, ⟨s0, rfl⟩, fun _ _ _ => trivial⟩
    obtain ⟨v, h', n', d, rfl, q⟩ := key
    exact ⟨h', n', d, q⟩
/-- The error of a call that throws; one row may be changed. -/
theorem try_rowQ (g : Nat) (b : List AV) (hg : E.opn g = true) (e : Int) (p : Nat) (h : Heap) (nx : Nat) (hp : p < nx)
    (hd : ∀ (h1 : Heap), (∀ i, i < nx → h1 i = h i) → ∃ h' n', denO E g b h1 (nx + 1) = some (.panic (Thr e), h', n') ∧ nx + 1 ≤ n' ∧ (∃ s, h' p = some (bx (.bool s))) ∧ ∀ i, i ≠ p → i < nx + 1 → h' i = h1 i) :
    ∃ H' N', denO E 32 [.fn g [] b] h nx = some (.ret (.int .i64 e), H', N') ∧ (nx ≤ N' ∧ (∃ s, H' p = some (bx (.bool s))) ∧ ∀ i, i ≠ p → i < nx → H' i = h i) := by
  obtain ⟨h', n', d1, d2, ⟨s, d3⟩, d4⟩ := hd (h.upd nx (some ⟨[.int .i64 0], false, 1, false⟩)) fun i hi => upd_ne (by omega)
  have k6 : h' nx = some ⟨[.int .i64 0], false, 1, false⟩ := (d4 nx (by omega) (by omega)).trans (if_pos rfl)
  obtain ⟨H', N', q1, q2, q3⟩ := try_pan g [] b hg e h h' nx n' d1 k6 (by omega)
  exact ⟨H', N', q1, by omega, ⟨s, (q3 p (by omega) (by omega)).trans d3⟩, fun i h1 h2 => (q3 i (by omega) (by omega)).trans ((d4 i h1 (by omega)).trans (upd_ne (by omega)))⟩
section
variable (na : Bool) (A : Mat) (nb : Bool) (B : List Raw) (ny : Bool) (Y : List Raw) (hA : ShortM A) (hB : Short B) (iA : InM A) (iB : ∀ q ∈ B, InR q.2.2) (hY : Short Y) (iY : ∀ q ∈ Y, InR q.2.2)
include hA hB iA iB hY
theorem Refutes_form (neg nm : Bool) (l : List Nat) (hl : l.length < 9223372036854775808) (h : (sysB A B && Y.all okV && rvalidW neg l) = false) :
    denP E 9 [mraw na A, lraw nb B, lraw ny Y, iv neg nm l] = some (.ret (.tup [.bool false, .int .i64 1])) := by
  refine denP_eq E9 rfl (by simp [AV.pureL, AV.pure, pure_ivr, pure_lr, pure_wd, iv]) ?_
  have s1 := sys_spec na A nb B hA hB iA iB
  have v1 := exValidL ny Y hY
  have m1 := validAny neg nm l hl
  simp only [iv] at m1 ⊢
  generalize rvalidW neg l = c at *
  generalize sysB A B = a at *
  generalize Y.all okV = b at *
  cases a with
  | false => cases b <;> cases c <;> (simp (maxSteps := 4000000) only [go_sem, ↓reduceIte, Nat.reduceAdd, Nat.reduceSub, Nat.reduceMul, Nat.reduceEqDiff, reduceCtorEq, Int.reduceAdd, Int.reduceLT, Int.reduceLE, Int.reduceToNat, Int.reduceNeg, Int.reduceSub, ← List.map_take, ← List.map_drop, ne_eq, Nat.reduceLeDiff, Nat.reduceLT, Nat.zero_le, Nat.le_refl, wrap64, wrapu64, wrapu32, ← Int.natCast_add, ← Int.natCast_mul, cast_succ, wrapu32_nat, shr32, reps_wd, map_set_wd, List.length_set, zs_len, Tryz.f9, s1, v1, m1, purify_lraw, purify_mraw, places, fillAll])
  | true =>
    cases b with
    | false => cases c <;> (simp (maxSteps := 4000000) only [go_sem, ↓reduceIte, Nat.reduceAdd, Nat.reduceSub, Nat.reduceMul, Nat.reduceEqDiff, reduceCtorEq, Int.reduceAdd, Int.reduceLT, Int.reduceLE, Int.reduceToNat, Int.reduceNeg, Int.reduceSub, ← List.map_take, ← List.map_drop, ne_eq, Nat.reduceLeDiff, Nat.reduceLT, Nat.zero_le, Nat.le_refl, wrap64, wrapu64, wrapu32, ← Int.natCast_add, ← Int.natCast_mul, cast_succ, wrapu32_nat, shr32, reps_wd, map_set_wd, List.length_set, zs_len, Tryz.f9, s1, v1, m1, purify_lraw, purify_mraw, places, fillAll])
    | true => cases c with
      | false => simp (maxSteps := 4000000) only [go_sem, ↓reduceIte, Nat.reduceAdd, Nat.reduceSub, Nat.reduceMul, Nat.reduceEqDiff, reduceCtorEq, Int.reduceAdd, Int.reduceLT, Int.reduceLE, Int.reduceToNat, Int.reduceNeg, Int.reduceSub, ← List.map_take, ← List.map_drop, ne_eq, Nat.reduceLeDiff, Nat.reduceLT, Nat.zero_le, Nat.le_refl, wrap64, wrapu64, wrapu32, ← Int.natCast_add, ← Int.natCast_mul, cast_succ, wrapu32_nat, shr32, reps_wd, map_set_wd, List.length_set, zs_len, Tryz.f9, s1, v1, m1, purify_lraw, purify_mraw, places, fillAll]
      | true => cases h
theorem Refutes_arg (fm : Bool) (m : Int) (lm : (dg m).length ≤ 4096) (h : sysB A B = true) (h2 : Y.all okV = true) (h3 : Y.length ≠ A.length ∨ m < 0) :
    denP E 9 [mraw na A, lraw nb B, lraw ny Y, I fm m] = some (.ret (.tup [.bool false, .int .i64 2])) := by
  refine denP_eq E9 rfl (by simp [AV.pureL, AV.pure, pure_ivr, pure_lr, pure_wd]) ?_
  have s1 := sys_spec na A nb B hA hB iA iB
  have v1 := exValidL ny Y hY
  have m1 := valid_I fm m lm
  rw [h] at s1
  rw [h2] at v1
  have hml : (A.map lr).length = A.length := List.length_map _
  have hmly : (Y.map ivr).length = Y.length := List.length_map _
  by_cases h4 : Y.length = A.length
  · have z1 : ((Y.length : Int) = (A.length : Int)) = True := eq_true (by omega)
    have z2 : ng m = true := by unfold ng; exact decide_eq_true (h3.resolve_left fun e => e h4)
    simp only [I, z2] at m1
    simp (maxSteps := 4000000) only [go_sem, ↓reduceIte, Nat.reduceAdd, Nat.reduceSub, Nat.reduceMul, Nat.reduceEqDiff, reduceCtorEq, Int.reduceAdd, Int.reduceLT, Int.reduceLE, Int.reduceToNat, Int.reduceNeg, Int.reduceSub, ← List.map_take, ← List.map_drop, ne_eq, Nat.reduceLeDiff, Nat.reduceLT, Nat.zero_le, Nat.le_refl, wrap64, wrapu64, wrapu32, ← Int.natCast_add, ← Int.natCast_mul, cast_succ, wrapu32_nat, shr32, reps_wd, map_set_wd, List.length_set, zs_len, Tryz.f9, s1, v1, m1, z1, z2, hml, hmly, purify_lraw, purify_mraw, places, fillAll]
  · have z1 : ((Y.length : Int) = (A.length : Int)) = False := eq_false (by omega)
    simp (maxSteps := 4000000) only [go_sem, ↓reduceIte, Nat.reduceAdd, Nat.reduceSub, Nat.reduceMul, Nat.reduceEqDiff, reduceCtorEq, Int.reduceAdd, Int.reduceLT, Int.reduceLE, Int.reduceToNat, Int.reduceNeg, Int.reduceSub, ← List.map_take, ← List.map_drop, ne_eq, Nat.reduceLeDiff, Nat.reduceLT, Nat.zero_le, Nat.le_refl, wrap64, wrapu64, wrapu32, ← Int.natCast_add, ← Int.natCast_mul, cast_succ, wrapu32_nat, shr32, reps_wd, map_set_wd, List.length_set, zs_len, Tryz.f9, s1, v1, m1, z1, hml, hmly, purify_lraw, purify_mraw, places, fillAll]
include iY
theorem Refutes_ok (fm : Bool) (m : Int) (lm : (dg m).length ≤ 4096) (h : sysB A B = true) (h2 : Y.all okV = true) (h3 : Y.length = A.length) (hm : 0 ≤ m) :
    ((dzFit (zg Y) (zg B) A.length ∧ ∀ k, k < (A.getD 0 default).2.length → dzFit (zg Y) (fun r => rowz A r k) A.length) → denP E 9 [mraw na A, lraw nb B, lraw ny Y, I fm m] = some (.ret (.tup [.bool (rfB A (zg B) (zg Y) m (A.getD 0 default).2.length), .int .i64 0]))) ∧
    (¬ (dzFit (zg Y) (zg B) A.length ∧ ∀ k, k < (A.getD 0 default).2.length → dzFit (zg Y) (fun r => rowz A r k) A.length) → denP E 9 [mraw na A, lraw nb B, lraw ny Y, I fm m] = some (.ret (.tup [.bool false, .int .i64 4]))) := by
  have s1 := sys_spec na A nb B hA hB iA iB
  have v1 := exValidL ny Y hY
  have m1 := valid_I fm m lm
  have hok := sys_ok iA iB h
  rw [h] at s1
  rw [h2] at v1
  have hml : (A.map lr).length = A.length := List.length_map _
  have hmly : (Y.map ivr).length = Y.length := List.length_map _
  have z1 : ((Y.length : Int) = (A.length : Int)) = True := eq_true (by omega)
  have z2 : ng m = false := by unfold ng; exact decide_eq_false (by omega)
  simp only [I, z2] at m1
  have vY : AllV Y := fun q hq => ⟨iY q hq, List.all_eq_true.1 h2 q hq⟩
  have hin : ∀ H0 : Heap, H0 0 = some (bx (mraw na A)) → H0 1 = some (bx (lraw nb B)) → H0 2 = some (bx (lraw ny Y)) → H0 3 = some ⟨[.bool false, .lst fm ((dg m).map wd)], true, 2, false⟩ → H0 4 = some (bx (.bool false)) →
      ∀ h1 : Heap, (∀ i, i < 5 → h1 i = H0 i) → RfIn A B Y (A.getD 0 default).2.length na nb ny fm m 3 2 1 4 0 h1 6 := fun H0 c0 c1 c2 c3 c4 h1 hh =>
    ⟨hok.mat, ⟨hok.rows.1, by have := hok.rows.2; omega⟩, by have := hok.cols.2; omega, hok.vB, hok.right, vY, h3, lm, by decide, by rw [hh 3 (by decide), c3, z2], (hh 2 (by decide)).trans c2, (hh 1 (by decide)).trans c1, ⟨_, (hh 4 (by decide)).trans c4⟩, (hh 0 (by decide)).trans c0⟩
  constructor
  · intro hf
    refine denP_eq E9 rfl (by simp [AV.pureL, AV.pure, pure_ivr, pure_lr, pure_wd]) ?_
    obtain ⟨s, hs⟩ : ∃ s, s = rfB A (zg B) (zg Y) m (A.getD 0 default).2.length := ⟨_, rfl⟩
    have hr : ∀ H0 : Heap, H0 0 = some (bx (mraw na A)) → H0 1 = some (bx (lraw nb B)) → H0 2 = some (bx (lraw ny Y)) → H0 3 = some ⟨[.bool false, .lst fm ((dg m).map wd)], true, 2, false⟩ → H0 4 = some (bx (.bool false)) → ∃ H' N', denO E 32 [.fn 36 [] [.ptr 3 0, .ptr 2 0, .ptr 1 0, .ptr 4 0, .ptr 0 0]] H0 5 = some (.ret (.int .i64 0), H', N') ∧ H' 4 = some (bx (.bool s)) := fun H0 c0 c1 c2 c3 c4 => by
      obtain ⟨H', N', q1, q2, q3, q4⟩ := try_row 36 [.ptr 3 0, .ptr 2 0, .ptr 1 0, .ptr 4 0, .ptr 0 0] rfl 4 (.bool s) H0 5 (by decide) (fun h1 hh => by
        have := refutes1_ret A B Y _ na nb ny fm m 3 2 1 4 0 h1 6 (hin H0 c0 c1 c2 c3 c4 h1 hh) hf.1 hf.2
        rw [← hs] at this
        exact this)
      exact ⟨H', N', q1, q3⟩
    rw [← hs]
    clear hs hin hf
    simp (maxSteps := 4000000) only [go_sem, ↓reduceIte, Nat.reduceAdd, Nat.reduceSub, Nat.reduceMul, Nat.reduceEqDiff, reduceCtorEq, Int.reduceAdd, Int.reduceLT, Int.reduceLE, Int.reduceToNat, Int.reduceNeg, Int.reduceSub, ← List.map_take, ← List.map_drop, ne_eq, Nat.reduceLeDiff, Nat.reduceLT, Nat.zero_le, Nat.le_refl, wrap64, wrapu64, wrapu32, ← Int.natCast_add, ← Int.natCast_mul, cast_succ, wrapu32_nat, shr32, reps_wd, map_set_wd, List.length_set, zs_len, Tryz.f9, s1, v1, m1, z1, z2, hml, hmly, purify_lraw, purify_mraw, places, fillAll]
    refine openK_int (e := 0) (fun H' _ => H' 4 = some (bx (.bool s))) ?_ ?_
    · exact hr _ (by simp only [upd_apply, ↓reduceIte, Nat.reduceEqDiff, if_pos]) (by simp only [upd_apply, ↓reduceIte, Nat.reduceEqDiff, if_pos]) (by simp only [upd_apply, ↓reduceIte, Nat.reduceEqDiff, if_pos]) (by simp only [upd_apply, ↓reduceIte, Nat.reduceEqDiff, if_pos]) (by simp only [upd_apply, ↓reduceIte, Nat.reduceEqDiff, if_pos])
    intro H' N' k1
    clear hr s1 v1 hml hmly
    cases s with
    | true => simp (maxSteps := 4000000) only [go_sem, ↓reduceIte, Nat.reduceAdd, Nat.reduceSub, Nat.reduceMul, Nat.reduceEqDiff, reduceCtorEq, Int.reduceAdd, Int.reduceLT, Int.reduceLE, Int.reduceToNat, Int.reduceNeg, Int.reduceSub, ← List.map_take, ← List.map_drop, ne_eq, Nat.reduceLeDiff, Nat.reduceLT, Nat.zero_le, Nat.le_refl, wrap64, wrapu64, wrapu32, ← Int.natCast_add, ← Int.natCast_mul, cast_succ, wrapu32_nat, shr32, reps_wd, map_set_wd, List.length_set, zs_len, k1, Int.reduceEq]
    | false => simp (maxSteps := 4000000) only [go_sem, ↓reduceIte, Nat.reduceAdd, Nat.reduceSub, Nat.reduceMul, Nat.reduceEqDiff, reduceCtorEq, Int.reduceAdd, Int.reduceLT, Int.reduceLE, Int.reduceToNat, Int.reduceNeg, Int.reduceSub, ← List.map_take, ← List.map_drop, ne_eq, Nat.reduceLeDiff, Nat.reduceLT, Nat.zero_le, Nat.le_refl, wrap64, wrapu64, wrapu32, ← Int.natCast_add, ← Int.natCast_mul, cast_succ, wrapu32_nat, shr32, reps_wd, map_set_wd, List.length_set, zs_len, k1, Int.reduceEq]
  · intro hf
    refine denP_eq E9 rfl (by simp [AV.pureL, AV.pure, pure_ivr, pure_lr, pure_wd]) ?_
    have hr : ∀ H0 : Heap, H0 0 = some (bx (mraw na A)) → H0 1 = some (bx (lraw nb B)) → H0 2 = some (bx (lraw ny Y)) → H0 3 = some ⟨[.bool false, .lst fm ((dg m).map wd)], true, 2, false⟩ → H0 4 = some (bx (.bool false)) → ∃ H' N', denO E 32 [.fn 36 [] [.ptr 3 0, .ptr 2 0, .ptr 1 0, .ptr 4 0, .ptr 0 0]] H0 5 = some (.ret (.int .i64 4), H', N') ∧ ∃ s, H' 4 = some (bx (.bool s)) := fun H0 c0 c1 c2 c3 c4 => by
      obtain ⟨H', N', q1, q2, q3, q4⟩ := try_rowQ 36 [.ptr 3 0, .ptr 2 0, .ptr 1 0, .ptr 4 0, .ptr 0 0] rfl 4 4 H0 5 (by decide) (fun h1 hh => refutes1_pan A B Y _ na nb ny fm m 3 2 1 4 0 h1 6 (hin H0 c0 c1 c2 c3 c4 h1 hh) hf)
      exact ⟨H', N', q1, q3⟩
    clear hin hf
    simp (maxSteps := 4000000) only [go_sem, ↓reduceIte, Nat.reduceAdd, Nat.reduceSub, Nat.reduceMul, Nat.reduceEqDiff, reduceCtorEq, Int.reduceAdd, Int.reduceLT, Int.reduceLE, Int.reduceToNat, Int.reduceNeg, Int.reduceSub, ← List.map_take, ← List.map_drop, ne_eq, Nat.reduceLeDiff, Nat.reduceLT, Nat.zero_le, Nat.le_refl, wrap64, wrapu64, wrapu32, ← Int.natCast_add, ← Int.natCast_mul, cast_succ, wrapu32_nat, shr32, reps_wd, map_set_wd, List.length_set, zs_len, Tryz.f9, s1, v1, m1, z1, z2, hml, hmly, purify_lraw, purify_mraw, places, fillAll]
    refine openK_int (e := 4) (fun H' _ => ∃ s, H' 4 = some (bx (.bool s))) ?_ ?_
    · exact hr _ (by simp only [upd_apply, ↓reduceIte, Nat.reduceEqDiff, if_pos]) (by simp only [upd_apply, ↓reduceIte, Nat.reduceEqDiff, if_pos]) (by simp only [upd_apply, ↓reduceIte, Nat.reduceEqDiff, if_pos]) (by simp only [upd_apply, ↓reduceIte, Nat.reduceEqDiff, if_pos]) (by simp only [upd_apply, ↓reduceIte, Nat.reduceEqDiff, if_pos])
    intro H' N' ⟨s, k1⟩
    clear hr s1 v1 hml hmly
    cases s with
    | true => simp (maxSteps := 4000000) only [go_sem, ↓reduceIte, Nat.reduceAdd, Nat.reduceSub, Nat.reduceMul, Nat.reduceEqDiff, reduceCtorEq, Int.reduceAdd, Int.reduceLT, Int.reduceLE, Int.reduceToNat, Int.reduceNeg, Int.reduceSub, ← List.map_take, ← List.map_drop, ne_eq, Nat.reduceLeDiff, Nat.reduceLT, Nat.zero_le, Nat.le_refl, wrap64, wrapu64, wrapu32, ← Int.natCast_add, ← Int.natCast_mul, cast_succ, wrapu32_nat, shr32, reps_wd, map_set_wd, List.length_set, zs_len, k1, Int.reduceEq]
    | false => simp (maxSteps := 4000000) only [go_sem, ↓reduceIte, Nat.reduceAdd, Nat.reduceSub, Nat.reduceMul, Nat.reduceEqDiff, reduceCtorEq, Int.reduceAdd, Int.reduceLT, Int.reduceLE, Int.reduceToNat, Int.reduceNeg, Int.reduceSub, ← List.map_take, ← List.map_drop, ne_eq, Nat.reduceLeDiff, Nat.reduceLT, Nat.zero_le, Nat.le_refl, wrap64, wrapu64, wrapu32, ← Int.natCast_add, ← Int.natCast_mul, cast_succ, wrapu32_nat, shr32, reps_wd, map_set_wd, List.length_set, zs_len, k1, Int.reduceEq]
end
end Go.Proofs.YtnpomadbaanpkaaGreat
