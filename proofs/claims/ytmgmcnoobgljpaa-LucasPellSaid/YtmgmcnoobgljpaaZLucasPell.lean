/- Part 5 of a proof about this seat: RLucasPell, LPell. (Own work of this repo.) -/
import Derived.Test.YtmgmcnoobgljpaaZLucasTells4
import Derived.WalkKit
import Derived.ProofKit
import Derived.OpenShut
import Derived.ShutString
import Derived.ChangeOld
import Derived.Below
import Derived.SizedLaws
set_option linter.unusedVariables false
set_option linter.unusedSimpArgs false
/- The row of LucasPell, out of what the machine over pure values says. (Own work of this repo.) -/
namespace Go.Proofs.Ytmgmcnoobgljpaa
namespace lucasPell
open Go.ChangeShapes Go.WideShapes Go.ChangeAt Go.RowKit
def Pure : Prop := ∀ xs, Vm.FitArgs E [24, 5, 5] xs → Vm.denP E 5 xs = some (.ret (.bool true))
theorem own : ownKnob Try.prog.godebug = none := by kernel_rfl
set_option maxRecDepth 100000 in
theorem lifted (hP : Pure) (os : Os) (started : os.Started) (H : Type) (enc : TypeId × Value → H) :
    ReturnsInHanded {} Try.checked os 5 .any (Rows.lucasPellSpec.pre6 enc Try.prog Try.f5 Rows.lucasPellRow.domain false) (Rows.lucasPellSpec.post enc Try.prog Try.f5 false true false false) := by
  refine returnsInHanded_of_change_sized (C := Try.checked) own started (by kernel_rfl) Try.func5
    (ChangeSpec.witness6 (enc := enc) (C := Try.checked) false ⟨#[], #[(.agg #[.bool false, .slice none 0 0]), (.int .u8 0), (.int .u8 0)], []⟩ 8 (by kernel_rfl) (by kernel_rfl) (by kernel_rfl) (by kernel_rfl)) ?_
  intro W base args ds gs before hval0 hW hcnd hsz0 _
  have hval : ∀ (j : Nat) t v, Try.f5.params[j]? = some t → args[j]? = some v → Value.okWide Try.prog W .any base t v := hval0
  have hW' := hW
  obtain ⟨p, q, hA0, hV, rfl, hfz, hnd⟩ := hW
  have hA : DataW.TrodAll enc Try.prog W 0 (fun _ => true) true Try.f5.params.toList args.toList ds p := hA0
  have hpar : Try.f5.params.toList = [24, 5, 5] := by rw [Try.params5]
  rw [hpar] at hA
  obtain ⟨xs, hfit, hrep, hpure, hst⟩ := Vm.open_args eok.toEOk (by kernel_rfl) _ _ _ _ (by kernel_rfl) hA (fun j t v ht hv => ⟨_, _, hval j t v (by rw [← Array.getElem?_toList, hpar]; exact ht) (by rw [← Array.getElem?_toList]; exact hv)⟩)
  have hlen := Vm.trodAll_len hA
  obtain ⟨rfl, rfl⟩ := trodVars_none hV
  clear hA0 hval0 hsz0 hval hA hcnd
  match ds, hlen, hst, hW' with
  | [d0, d1, d2], _, hst, hW =>
    refine (Vm.denP_calls eok (hP xs hfit) W args hrep hpure).mono fun e W' ⟨bel, v, he, hv⟩ => ?_
    subst he
    obtain rfl := Vm.rep_bool hv
    exact ⟨_, rfl, _, _, _, [], _, [], hW, trodAll_mk1 (shut_bool Try.underlying4 _), (by rw [hpar]; exact hst W' bel), rfl, bel.frame _, fun h => by cases h⟩
theorem over (hP : Pure) : Rows.lucasPellRow.holds Try.pinned (OpenSpec.ofChange Rows.lucasPellSpec) :=
  OpenClaim.holds_of_wide 5 Try.f5 rfl rfl rfl rfl rfl rfl rfl ⟨rfl, rfl, rfl, rfl, rfl⟩ rfl rfl rfl rfl rfl (by kernel_rfl) Try.func5 (by kernel_rfl)
    (of_decide_eq_true (by kernel_rfl)) (by unfold Func.isWrapper; first | (rw [if_pos (by decide +kernel)]; kernel_rfl) | (rw [if_neg (by decide +kernel)]; exact ⟨rfl, rfl⟩))
    (fun os started H enc _ => lifted hP os started H enc)
end lucasPell

end Go.Proofs.Ytmgmcnoobgljpaa

/- The law LucasPell. (Own work of this repo.) -/
namespace Go.Proofs.Ytmgmcnoobgljpaa
open Vm Luc
set_option maxRecDepth 10000

theorem rValid_any (neg nl : Bool) (l : List Nat) (hl : l.length < 9223372036854775808) : denP E 22 [iv neg nl l] = some (.ret (.bool (rvalidW neg l))) := by
  refine denP_eq E22 rfl (by simp [AV.pureL, AV.pure, pure_wd]) ?_
  unfold rvalidW
  by_cases h2 : l.length = 0
  · simp (maxSteps := 4000000) (disch := omega) only [go_sem, ↓reduceIte, Nat.reduceAdd, Nat.reduceSub, Nat.reduceMul, Nat.reduceEqDiff, reduceCtorEq, Int.reduceAdd, Int.reduceLT, Int.reduceLE, Int.reduceToNat, Int.reduceNeg, Int.reduceSub, ← List.map_take, ← List.map_drop, wrap64, wrapu64, wrapu32, Try.f22]
  · have e : (l.length : Int) - 1 = (l.length - 1 : Nat) := by omega
    by_cases h1 : l.length ≤ 4096
    · by_cases h3 : l.getD (l.length - 1) 0 = 0
      · simp (maxSteps := 4000000) (disch := omega) only [go_sem, ↓reduceIte, Nat.reduceAdd, Nat.reduceSub, Nat.reduceMul, Nat.reduceEqDiff, reduceCtorEq, Int.reduceAdd, Int.reduceLT, Int.reduceLE, Int.reduceToNat, Int.reduceNeg, Int.reduceSub, ← List.map_take, ← List.map_drop, wrap64, wrapu64, wrapu32, Try.f22, e, ne_eq]
      · simp (maxSteps := 4000000) (disch := omega) only [go_sem, ↓reduceIte, Nat.reduceAdd, Nat.reduceSub, Nat.reduceMul, Nat.reduceEqDiff, reduceCtorEq, Int.reduceAdd, Int.reduceLT, Int.reduceLE, Int.reduceToNat, Int.reduceNeg, Int.reduceSub, ← List.map_take, ← List.map_drop, wrap64, wrapu64, wrapu32, Try.f22, e, ne_eq]
    · simp (maxSteps := 4000000) (disch := omega) only [go_sem, ↓reduceIte, Nat.reduceAdd, Nat.reduceSub, Nat.reduceMul, Nat.reduceEqDiff, reduceCtorEq, Int.reduceAdd, Int.reduceLT, Int.reduceLE, Int.reduceToNat, Int.reduceNeg, Int.reduceSub, ← List.map_take, ← List.map_drop, wrap64, wrapu64, wrapu32, Try.f22]
/-- What 'small' makes of a number. -/
theorem small_walk (q : Raw) (rq : InR q.2.2) (lq : q.2.2.length < 9223372036854775808) : ∃ p : Bool × Int, denP E 27 [ivr q] = some (.ret ((fun p : Bool × Int => I p.1 p.2) p)) ∧ (2 ≤ p.2 ∧ (dg p.2).length ≤ 7 ∧ (p.1 = true → p.2 = 0)) := by
  refine denP_ex E27 rfl (by simp [AV.pureL, AV.pure, pure_wd]) ?_
  have h1 := rValid_any q.1 q.2.1 q.2.2 lq
  have r2 := rOf_spec 2 (by decide) (by decide)
  rw [RM, show decide ((2 : Int) = 0) = false from rfl] at r2
  have l2 := dg_small (z := 2) (by decide)
  cases hv : rvalidW q.1 q.2.2 with
  | false =>
    rw [hv] at h1
    simp only [ivr, iv] at h1 ⊢
    simp (maxSteps := 4000000) only [go_sem, ↓reduceIte, Nat.reduceAdd, Nat.reduceSub, Nat.reduceMul, Nat.reduceEqDiff, reduceCtorEq, Int.reduceAdd, Int.reduceLT, Int.reduceLE, Int.reduceToNat, Int.reduceNeg, Int.reduceSub, ← List.map_take, ← List.map_drop, ne_eq, Nat.reduceLeDiff, Nat.reduceLT, Nat.zero_le, Nat.le_refl, wrap64, wrapu64, wrapu32, ← Int.natCast_add, ← Int.natCast_mul, cast_succ, wrapu32_nat, shr32, reps_wd, map_set_wd, List.length_set, zs_len, Try.f27, h1, r2]
    exact ⟨(false, 2), rfl, by decide, by dsimp only; omega, by intro h; cases h⟩
  | true =>
    rw [hv] at h1
    by_cases h6 : 6 < q.2.2.length
    · have z1 : ((6 : Int) < (q.2.2.length : Int)) = True := eq_true (by omega)
      simp only [ivr, iv] at h1 ⊢
      simp (maxSteps := 4000000) only [go_sem, ↓reduceIte, Nat.reduceAdd, Nat.reduceSub, Nat.reduceMul, Nat.reduceEqDiff, reduceCtorEq, Int.reduceAdd, Int.reduceLT, Int.reduceLE, Int.reduceToNat, Int.reduceNeg, Int.reduceSub, ← List.map_take, ← List.map_drop, ne_eq, Nat.reduceLeDiff, Nat.reduceLT, Nat.zero_le, Nat.le_refl, wrap64, wrapu64, wrapu32, ← Int.natCast_add, ← Int.natCast_mul, cast_succ, wrapu32_nat, shr32, reps_wd, map_set_wd, List.length_set, zs_len, Try.f27, h1, r2, z1]
      exact ⟨(false, 2), rfl, by decide, by dsimp only; omega, by intro h; cases h⟩
    · obtain ⟨hl', a, h3, h4⟩ := rvalid_norm (neg := q.1) rq hv
      obtain ⟨neg, fa, l⟩ := q
      dsimp only at h3 h4 h1 h6 ⊢
      subst h3 h4
      have z1 : ((6 : Int) < ((dg a).length : Int)) = False := eq_false (by omega)
      have a1 := rAbs_spec fa a (by omega)
      have la : (dg (a.natAbs : Int)).length ≤ 6 := by rw [dg_nat]; exact Nat.not_lt.1 h6
      have a2 := rAdd_spec (decide ((a.natAbs : Int) = 0)) (a.natAbs : Int) false 2 (by omega) (by omega)
      have ls := dg_add (a.natAbs : Int) 2
      have hz : decide ((a.natAbs : Int) + 2 = 0) = false := decide_eq_false (by omega)
      simp only [ivr, iv] at h1 ⊢
      rw [RM] at a1 a2
      rw [hz] at a2
      have h2 : 2 ≤ (a.natAbs : Int) + 2 := by omega
      generalize (a.natAbs : Int) + 2 = s at *
      generalize decide ((a.natAbs : Int) = 0) = d at *
      generalize (a.natAbs : Int) = t at *
      simp (maxSteps := 4000000) only [go_sem, ↓reduceIte, Nat.reduceAdd, Nat.reduceSub, Nat.reduceMul, Nat.reduceEqDiff, reduceCtorEq, Int.reduceAdd, Int.reduceLT, Int.reduceLE, Int.reduceToNat, Int.reduceNeg, Int.reduceSub, ← List.map_take, ← List.map_drop, ne_eq, Nat.reduceLeDiff, Nat.reduceLT, Nat.zero_le, Nat.le_refl, wrap64, wrapu64, wrapu32, ← Int.natCast_add, ← Int.natCast_mul, cast_succ, wrapu32_nat, shr32, reps_wd, map_set_wd, List.length_set, zs_len, Try.f27, h1, r2, z1, a1, a2]
      exact ⟨(false, s), rfl, h2, by dsimp only; omega, by intro h; cases h⟩
theorem chi_len {a : Int} (h2 : 2 ≤ a) (ha : (dg a).length ≤ 7) : ∀ n : Nat, (dg (chi a n)).length ≤ 9 * n + 2
  | 0 => by rw [chi_zero]; exact dg_small (by decide)
  | 1 => by rw [chi_one]; omega
  | n + 2 => by
    have ih := chi_len h2 ha (n + 1)
    have h3 := dg_mul (2 * a) (chi a (n + 1))
    have h4 := dg_mul 2 a
    have h5 := dg_small (z := 2) (by decide)
    have h6 := chi_rec (a := a) n
    have h7 := nonneg (a := a) (by omega) n
    have h8 := nonneg (a := a) (by omega) (n + 2)
    have h9 := dg_mono (a := chi a (n + 2)) (b := 2 * a * chi a (n + 1)) (by omega)
    omega
theorem psi_len {a : Int} (h2 : 2 ≤ a) (ha : (dg a).length ≤ 7) (n : Nat) : (dg (psi a n)).length ≤ 9 * n + 2 := by
  refine Nat.le_trans (dg_mono ?_) (chi_len h2 ha n)
  have q1 := psi_lt_chi (a := a) h2 n
  have q2 := (nonneg (a := a) (by omega) n).2
  omega
theorem both_spec (a : Int) (fa : Bool) (h2 : 2 ≤ a) (ha : (dg a).length ≤ 7) (n : Nat) (hn : n ≤ 300) : ∃ p : Bool × Bool, denP E 28 [I fa a, .int .i64 n] = some (.ret ((fun p : Bool × Bool => .tup [I p.1 (chi a n), I p.2 (psi a n), .bool true]) p)) ∧ True := by
  refine denP_ex E28 rfl (by simp [AV.pureL, AV.pure, pure_wd]) ?_
  obtain ⟨fp, p1⟩ := psi_el a fa (by omega) h2 n (by omega)
  obtain ⟨fc, c1⟩ := chi_el a fa (by omega) h2 n (by omega)
  have p2 := psi_of _ _ _ _ _ _ p1
  have c2 := chi_of _ _ _ _ _ _ c1
  have l1 := chi_len h2 ha n
  have l2 := psi_len h2 ha n
  rw [fit_of (by omega), er_of (by omega)] at p2 c2
  clear p1 c1
  simp (maxSteps := 4000000) only [go_sem, ↓reduceIte, Nat.reduceAdd, Nat.reduceSub, Nat.reduceMul, Nat.reduceEqDiff, reduceCtorEq, Int.reduceAdd, Int.reduceLT, Int.reduceLE, Int.reduceToNat, Int.reduceNeg, Int.reduceSub, ← List.map_take, ← List.map_drop, ne_eq, Nat.reduceLeDiff, Nat.reduceLT, Nat.zero_le, Nat.le_refl, wrap64, wrapu64, wrapu32, ← Int.natCast_add, ← Int.natCast_mul, cast_succ, wrapu32_nat, shr32, reps_wd, map_set_wd, List.length_set, zs_len, Try.f28, p2, c2]
  refine W_drawn ?_
  simp (maxSteps := 4000000) only [go_sem, ↓reduceIte, Nat.reduceAdd, Nat.reduceSub, Nat.reduceMul, Nat.reduceEqDiff, reduceCtorEq, Int.reduceAdd, Int.reduceLT, Int.reduceLE, Int.reduceToNat, Int.reduceNeg, Int.reduceSub, ← List.map_take, ← List.map_drop, ne_eq, Nat.reduceLeDiff, Nat.reduceLT, Nat.zero_le, Nat.le_refl, wrap64, wrapu64, wrapu32, ← Int.natCast_add, ← Int.natCast_mul, cast_succ, wrapu32_nat, shr32, reps_wd, map_set_wd, List.length_set, zs_len, p2, c2, Int.reduceEq]
  exact ⟨by refine okR_pairs ?_; (repeat ((with_unfolding_all refine And.intro ?_ ?_); (focus (rw [free_mk] <;> (try simp) <;> (try omega))))); (with_unfolding_all exact True.intro), (fc, fp), rfl⟩
set_option maxHeartbeats 2000000 in
theorem lucasPell_walk (q : Raw) (rq : InR q.2.2) (lq : q.2.2.length < 9223372036854775808) (m n : Nat) (hm : m < 256) (hn : n < 256) : denP E 5 [ivr q, .int .u8 m, .int .u8 n] = some (.ret (.bool true)) := by
  obtain ⟨⟨fa, a⟩, s1, h2, ha, hf⟩ := small_walk q rq lq
  dsimp only at s1 h2 ha hf
  refine denP_eq E5 rfl (by simp [AV.pureL, AV.pure, pure_wd]) ?_
  obtain ⟨i, hi⟩ : ∃ i, i = m % 61 := ⟨_, rfl⟩
  obtain ⟨k, hk⟩ : ∃ k, k = n % 61 := ⟨_, rfl⟩
  have c1 : (m : Int).tmod 61 = (i : Int) := by rw [Int.tmod_eq_emod_of_nonneg (by omega)]; omega
  have c2 : (n : Int).tmod 61 = (k : Int) := by rw [Int.tmod_eq_emod_of_nonneg (by omega)]; omega
  obtain ⟨⟨f1, f2⟩, b1, _⟩ := both_spec a fa h2 ha i (by omega)
  obtain ⟨⟨f3, f4⟩, b2, _⟩ := both_spec a fa h2 ha k (by omega)
  obtain ⟨⟨f5, f6⟩, b3, _⟩ := both_spec a fa h2 ha (i + k) (by omega)
  dsimp only at b1 b2 b3
  have w1 : IntKind.i64.wrap (m : Int) = (m : Int) := wrap64 (by omega) (by omega)
  have w2 : IntKind.i64.wrap (n : Int) = (n : Int) := wrap64 (by omega) (by omega)
  have w3 : IntKind.i64.wrap (i : Int) = (i : Int) := wrap64 (by omega) (by omega)
  have w4 : IntKind.i64.wrap (k : Int) = (k : Int) := wrap64 (by omega) (by omega)
  have w5 : IntKind.i64.wrap ((i + k : Nat) : Int) = ((i + k : Nat) : Int) := wrap64 (by omega) (by omega)
  have x1 := chi_len h2 ha i
  have x2 := psi_len h2 ha i
  have x3 := chi_len h2 ha k
  have x4 := psi_len h2 ha k
  have x5 := chi_len h2 ha (i + k)
  have x6 := psi_len h2 ha (i + k)
  have r1 := rOf_spec 1 (by decide) (by decide)
  rw [RM, show decide ((1 : Int) = 0) = false from rfl] at r1
  have l1 := dg_small (z := 1) (by decide)
  have ea := chi_add (a := a) i k
  have ep := pell (a := a) i
  generalize chi a (i + k) = p at *
  generalize psi a (i + k) = qq at *
  generalize chi a i = x at *
  generalize psi a i = y at *
  generalize chi a k = u at *
  generalize psi a k = v at *
  have y1 := dg_mul a a
  have y2 := dg_sub (a * a) 1
  have y3 := dg_mul x x
  have y4 := dg_mul y y
  have y5 := dg_mul (a * a - 1) (y * y)
  have y6 := dg_mul y u
  have y7 := dg_mul x v
  have y8 := dg_add (y * u) (x * v)
  have y9 := dg_mul x u
  have y10 := dg_mul y v
  have y11 := dg_mul (a * a - 1) (y * v)
  have y12 := dg_add (x * u) ((a * a - 1) * (y * v))
  have y13 := dg_sub (x * x) ((a * a - 1) * (y * y))
  have m1 := rMul_spec fa a fa a (by omega) (by omega)
  have m2 := rSub_spec (decide (a * a = 0)) (a * a) false 1 (by omega) (by omega)
  have m3 := rMul_spec f1 x f1 x (by omega) (by omega)
  have m4 := rMul_spec f2 y f2 y (by omega) (by omega)
  have m5 := rMul_spec (decide (a * a - 1 = 0)) (a * a - 1) (decide (y * y = 0)) (y * y) (by omega) (by omega)
  have m6 := rSub_spec (decide (x * x = 0)) (x * x) (decide ((a * a - 1) * (y * y) = 0)) ((a * a - 1) * (y * y)) (by omega) (by omega)
  have m7 := rSame_spec (decide (x * x - (a * a - 1) * (y * y) = 0)) (x * x - (a * a - 1) * (y * y)) false 1 (by omega) (by omega)
  rw [decide_eq_true ep] at m7
  have m8 := rMul_spec f2 y f3 u (by omega) (by omega)
  have m9 := rMul_spec f1 x f4 v (by omega) (by omega)
  have m10 := rAdd_spec (decide (y * u = 0)) (y * u) (decide (x * v = 0)) (x * v) (by omega) (by omega)
  have m11 := rSame_spec f6 qq (decide (y * u + x * v = 0)) (y * u + x * v) (by omega) (by omega)
  rw [decide_eq_true (show qq = y * u + x * v from ea.2)] at m11
  have m12 := rMul_spec f1 x f3 u (by omega) (by omega)
  have m13 := rMul_spec f2 y f4 v (by omega) (by omega)
  have m14 := rMul_spec (decide (a * a - 1 = 0)) (a * a - 1) (decide (y * v = 0)) (y * v) (by omega) (by omega)
  have m15 := rAdd_spec (decide (x * u = 0)) (x * u) (decide ((a * a - 1) * (y * v) = 0)) ((a * a - 1) * (y * v)) (by omega) (by omega)
  have m16 := rSame_spec f5 p (decide (x * u + (a * a - 1) * (y * v) = 0)) (x * u + (a * a - 1) * (y * v)) (by omega) (by omega)
  rw [decide_eq_true ea.1] at m16
  clear y1 y2 y3 y4 y5 y6 y7 y8 y9 y10 y11 y12 y13 ea ep x1 x2 x3 x4 x5 x6 h2 ha hf
  simp only [RM] at m1 m2 m3 m4 m5 m6 m8 m9 m10 m12 m13 m14 m15
  generalize decide (x * x - (a * a - 1) * (y * y) = 0) = d1 at *
  generalize decide ((a * a - 1) * (y * y) = 0) = d2 at *
  generalize decide (x * x = 0) = d3 at *
  generalize decide (y * y = 0) = d4 at *
  generalize decide (x * u + (a * a - 1) * (y * v) = 0) = d5 at *
  generalize decide ((a * a - 1) * (y * v) = 0) = d6 at *
  generalize decide (x * u = 0) = d7 at *
  generalize decide (y * v = 0) = d8 at *
  generalize decide (y * u + x * v = 0) = d9 at *
  generalize decide (y * u = 0) = d10 at *
  generalize decide (x * v = 0) = d11 at *
  generalize decide (a * a - 1 = 0) = d12 at *
  generalize decide (a * a = 0) = d13 at *
  generalize x * x - (a * a - 1) * (y * y) = v1 at *
  generalize (a * a - 1) * (y * y) = v2 at *
  generalize x * u + (a * a - 1) * (y * v) = v3 at *
  generalize (a * a - 1) * (y * v) = v4 at *
  generalize y * u + x * v = v5 at *
  generalize a * a - 1 = v6 at *
  generalize a * a = v7 at *
  generalize x * x = v8 at *
  generalize y * y = v9 at *
  generalize y * u = v10 at *
  generalize x * v = v11 at *
  generalize x * u = v12 at *
  generalize y * v = v13 at *
  simp only [ivr, iv] at s1 ⊢
  simp (maxSteps := 4000000) only [go_sem, ↓reduceIte, Nat.reduceAdd, Nat.reduceSub, Nat.reduceMul, Nat.reduceEqDiff, reduceCtorEq, Int.reduceAdd, Int.reduceLT, Int.reduceLE, Int.reduceToNat, Int.reduceNeg, Int.reduceSub, ← List.map_take, ← List.map_drop, ne_eq, Nat.reduceLeDiff, Nat.reduceLT, Nat.zero_le, Nat.le_refl, wrap64, wrapu64, wrapu32, ← Int.natCast_add, ← Int.natCast_mul, cast_succ, wrapu32_nat, shr32, reps_wd, map_set_wd, List.length_set, zs_len, Try.f5, s1, c1, c2, b1, b2, b3, w1, w2, w3, w4, w5, Int.reduceEq, m1, m2, r1]
  refine W_drawn ?_
  simp (maxSteps := 4000000) only [go_sem, ↓reduceIte, Nat.reduceAdd, Nat.reduceSub, Nat.reduceMul, Nat.reduceEqDiff, reduceCtorEq, Int.reduceAdd, Int.reduceLT, Int.reduceLE, Int.reduceToNat, Int.reduceNeg, Int.reduceSub, ← List.map_take, ← List.map_drop, ne_eq, Nat.reduceLeDiff, Nat.reduceLT, Nat.zero_le, Nat.le_refl, wrap64, wrapu64, wrapu32, ← Int.natCast_add, ← Int.natCast_mul, cast_succ, wrapu32_nat, shr32, reps_wd, map_set_wd, List.length_set, zs_len, m3, m4, m5, m6]
  refine ⟨by refine okR_pairs ?_; (repeat ((with_unfolding_all refine And.intro ?_ ?_); (focus (rw [free_mk] <;> (try simp) <;> (try omega))))); (with_unfolding_all exact True.intro), ?_⟩
  refine W_drawn ?_
  simp (maxSteps := 4000000) only [go_sem, ↓reduceIte, Nat.reduceAdd, Nat.reduceSub, Nat.reduceMul, Nat.reduceEqDiff, reduceCtorEq, Int.reduceAdd, Int.reduceLT, Int.reduceLE, Int.reduceToNat, Int.reduceNeg, Int.reduceSub, ← List.map_take, ← List.map_drop, ne_eq, Nat.reduceLeDiff, Nat.reduceLT, Nat.zero_le, Nat.le_refl, wrap64, wrapu64, wrapu32, ← Int.natCast_add, ← Int.natCast_mul, cast_succ, wrapu32_nat, shr32, reps_wd, map_set_wd, List.length_set, zs_len, r1, m7, m8, m9, m10, m11, m12, m13, m14, m15, m16, awake8]
  refine okR_pairs ?_; (repeat ((with_unfolding_all refine And.intro ?_ ?_); (focus (rw [free_mk] <;> (try simp) <;> (try omega))))); (with_unfolding_all exact True.intro)
theorem fit_u8 {m : Nat} {cs : List AV} {t : Nat} (ht : E.T t = some ⟨1, 1, false, .int .u8 0, .int .u8⟩) (h : Fit E (m + 1) t cs) : ∃ n : Nat, n < 256 ∧ cs = [.int .u8 n] := by
  simp only [Fit, ht, FitD] at h
  obtain ⟨_, i, rfl, hi⟩ := h
  have hi' : 0 ≤ i ∧ i < 256 := by simp [Lit.wf, IntKind.max, IntKind.min, IntKind.bits, IntKind.signed] at hi; omega
  refine ⟨i.toNat, by omega, ?_⟩
  rw [show ((i.toNat : Nat) : Int) = i by omega]
theorem lucasPell_pure : lucasPell.Pure := by
  intro xs h
  simp only [FitArgs, opn_eq, T1, T2, T3, T4, T5, T6, T7, T8, T9, T10, T11, T12, T13, T14, T15, T16, T17, T18, T19, T20, T21, T22, T23, T24, T25, T26, T27, T29, T30, T31, T33, T34, T35, T37, T38, T39, T40, T42, T43, T44, T45, T46, T47, T48, T50, T51, T53, T55, T56, T57, T58, T59, T60, T61, T62, T63, T64, T65, T66, T67, T68, T69, T70, T71, T72, T73, T74, T75, T76, T77, T78, T79, T80, T81, T82, T83, T84, T85, T86, T87, T88, T89, T90, T92, T94, T95, T96, T97, T98, T99, T100, T101, T102, T104, T105, T106, T107, T108, T109, T111, T112, T113, T115, T116, T117, T118, T119, T120, T121, T122, T123, T124, T125, T126, T127, T128, T129, T130, T131, T132, T133, elm] at h
  obtain ⟨c1, x1, y1, rfl, ⟨rfl, h1⟩, c2, x2, y2, rfl, ⟨rfl, h2⟩, c3, x3, y3, rfl, ⟨rfl, h3⟩, rfl⟩ := h
  obtain ⟨qa, rfl, ra, na, la⟩ := fit_raw (m := 3) h1
  obtain ⟨i, hi, rfl⟩ := fit_u8 (m := 5) T5 h2
  obtain ⟨k, hk, rfl⟩ := fit_u8 (m := 5) T5 h3
  exact lucasPell_walk qa ra (Nat.lt_of_le_of_lt la (by decide)) i k hi hk
theorem lucasPell_holds : Rows.LucasPellSaid := lucasPell.over lucasPell_pure
#print axioms lucasPell_holds
end Go.Proofs.Ytmgmcnoobgljpaa
