/- Part 7 of a proof about this seat: RLucasSteps, LSteps. (Own work of this repo.) -/
import Derived.Test.YtmgmcnoobgljpaaZLucasRank6
import Derived.WalkKit
import Derived.ProofKit
import Derived.OpenShut
import Derived.ShutString
import Derived.ChangeOld
import Derived.Below
import Derived.SizedLaws
set_option linter.unusedVariables false
set_option linter.unusedSimpArgs false
/- The row of LucasSteps, out of what the machine over pure values says. (Own work of this repo.) -/
namespace Go.Proofs.Ytmgmcnoobgljpaa
namespace lucasSteps
open Go.ChangeShapes Go.WideShapes Go.ChangeAt Go.RowKit
def Pure : Prop := ∀ xs, Vm.FitArgs E [24, 5, 57, 57] xs → Vm.denP E 10 xs = some (.ret (.bool true))
theorem own : ownKnob Try.prog.godebug = none := by kernel_rfl
set_option maxRecDepth 100000 in
theorem lifted (hP : Pure) (os : Os) (started : os.Started) (H : Type) (enc : TypeId × Value → H) :
    ReturnsInHanded {} Try.checked os 10 .any (Rows.lucasStepsSpec.pre6 enc Try.prog Try.f10 Rows.lucasStepsRow.domain false) (Rows.lucasStepsSpec.post enc Try.prog Try.f10 false true false false) := by
  refine returnsInHanded_of_change_sized (C := Try.checked) own started (by kernel_rfl) Try.func10
    (ChangeSpec.witness6 (enc := enc) (C := Try.checked) false ⟨#[], #[(.agg #[.bool false, .slice none 0 0]), (.int .u8 0), (.int .u32 0), (.int .u32 0)], []⟩ 8 (by kernel_rfl) (by kernel_rfl) (by kernel_rfl) (by kernel_rfl)) ?_
  intro W base args ds gs before hval0 hW hcnd hsz0 _
  have hval : ∀ (j : Nat) t v, Try.f10.params[j]? = some t → args[j]? = some v → Value.okWide Try.prog W .any base t v := hval0
  have hW' := hW
  obtain ⟨p, q, hA0, hV, rfl, hfz, hnd⟩ := hW
  have hA : DataW.TrodAll enc Try.prog W 0 (fun _ => true) true Try.f10.params.toList args.toList ds p := hA0
  have hpar : Try.f10.params.toList = [24, 5, 57, 57] := by rw [Try.params10]
  rw [hpar] at hA
  obtain ⟨xs, hfit, hrep, hpure, hst⟩ := Vm.open_args eok.toEOk (by kernel_rfl) _ _ _ _ (by kernel_rfl) hA (fun j t v ht hv => ⟨_, _, hval j t v (by rw [← Array.getElem?_toList, hpar]; exact ht) (by rw [← Array.getElem?_toList]; exact hv)⟩)
  have hlen := Vm.trodAll_len hA
  obtain ⟨rfl, rfl⟩ := trodVars_none hV
  clear hA0 hval0 hsz0 hval hA hcnd
  match ds, hlen, hst, hW' with
  | [d0, d1, d2, d3], _, hst, hW =>
    refine (Vm.denP_calls eok (hP xs hfit) W args hrep hpure).mono fun e W' ⟨bel, v, he, hv⟩ => ?_
    subst he
    obtain rfl := Vm.rep_bool hv
    exact ⟨_, rfl, _, _, _, [], _, [], hW, trodAll_mk1 (shut_bool Try.underlying4 _), (by rw [hpar]; exact hst W' bel), rfl, bel.frame _, fun h => by cases h⟩
theorem over (hP : Pure) : Rows.lucasStepsRow.holds Try.pinned (OpenSpec.ofChange Rows.lucasStepsSpec) :=
  OpenClaim.holds_of_wide 10 Try.f10 rfl rfl rfl rfl rfl rfl rfl ⟨rfl, rfl, rfl, rfl, rfl⟩ rfl rfl rfl rfl rfl (by kernel_rfl) Try.func10 (by kernel_rfl)
    (of_decide_eq_true (by kernel_rfl)) (by unfold Func.isWrapper; first | (rw [if_pos (by decide +kernel)]; kernel_rfl) | (rw [if_neg (by decide +kernel)]; exact ⟨rfl, rfl⟩))
    (fun os started H enc _ => lifted hP os started H enc)
end lucasSteps

end Go.Proofs.Ytmgmcnoobgljpaa

/- The law LucasSteps. (Own work of this repo.) -/
namespace Go.Proofs.Ytmgmcnoobgljpaa
open Vm Luc
set_option maxRecDepth 10000

theorem tmod_zero {x : Int} {k : Nat} (_hk : 0 < k) : (x.tmod (k : Int) = 0) ↔ (x % (k : Int) = 0) := by
  rw [← Int.dvd_iff_tmod_eq_zero, Int.dvd_iff_emod_eq_zero]
theorem steps_same (a : Int) (h2 : 2 ≤ a) (k i j : Nat) (hk : 2 ≤ k) : (psi a i % chi a k = psi a j % chi a k) ↔ (((i : Int) - j) % ((4 * k : Nat) : Int) = 0 ∨ ((i : Int) + j - 2 * k) % ((4 * k : Nat) : Int) = 0) := by
  have h1 : (psi a i % chi a k = psi a j % chi a k) ↔ chi a k ∣ (psi a i - psi a j) := by
    rw [Int.emod_eq_emod_iff_emod_sub_eq_zero, Int.dvd_iff_emod_eq_zero]
  rw [h1, steps h2 hk]
  obtain ⟨M, hM⟩ : ∃ M, M = 4 * k := ⟨_, rfl⟩
  rw [← hM]
  have e1 := Nat.div_add_mod i M
  have e2 := Nat.div_add_mod j M
  have l1 := Nat.mod_lt i (show 0 < M by omega)
  have l2 := Nat.mod_lt j (show 0 < M by omega)
  generalize i % M = r at *
  generalize j % M = s at *
  generalize i / M = p at *
  generalize j / M = q at *
  have c1 : ((i : Int) - j) = (M : Int) * ((p : Int) - q) + ((r : Int) - s) := by rw [← e1, ← e2, Int.mul_sub]; push_cast; omega
  have c2 : ((i : Int) + j - 2 * k) = (M : Int) * ((p : Int) + q) + ((r : Int) + s - 2 * k) := by rw [← e1, ← e2, Int.mul_add]; push_cast; omega
  rw [c1, c2, Int.mul_add_emod_self_left, Int.mul_add_emod_self_left]
  constructor
  · rintro (h | h | h)
    · left; rw [h, Int.sub_self]; exact Int.zero_emod _
    · right; rw [show (r : Int) + s - 2 * k = 0 by omega]; exact Int.zero_emod _
    · right; rw [show (r : Int) + s - 2 * k = (M : Int) by omega]; exact Int.emod_self
  · have key : ∀ z : Int, -(M : Int) < z → z < 2 * M → z % (M : Int) = 0 → z = 0 ∨ z = M := by
      intro z h1 h2 h
      obtain ⟨c, rfl⟩ := Int.dvd_of_emod_eq_zero h
      have hc1 : -1 < c := by
        rcases Int.lt_or_le (-1) c with h | h
        · exact h
        · have := Int.mul_le_mul_of_nonneg_left h (show (0 : Int) ≤ M by omega); omega
      have hc2 : c < 2 := by
        rcases Int.lt_or_le c 2 with h | h
        · exact h
        · have := Int.mul_le_mul_of_nonneg_left h (show (0 : Int) ≤ M by omega); omega
      have : c = 0 ∨ c = 1 := by omega
      rcases this with rfl | rfl
      · left; exact Int.mul_zero _
      · right; exact Int.mul_one _
    rintro (h | h)
    · rcases key _ (by omega) (by omega) h with h | h
      · left; omega
      · omega
    · rcases key _ (by omega) (by omega) h with h | h
      · right; left; omega
      · right; right; omega
theorem fit_u32 {m : Nat} {cs : List AV} {t : Nat} (ht : E.T t = some ⟨1, 4, false, .int .u32 0, .int .u32⟩) (h : Fit E (m + 1) t cs) : ∃ n : Nat, n < 4294967296 ∧ cs = [.int .u32 n] := by
  simp only [Fit, ht, FitD] at h
  obtain ⟨_, i, rfl, hi⟩ := h
  have hi' : 0 ≤ i ∧ i < 4294967296 := by simp [Lit.wf, IntKind.max, IntKind.min, IntKind.bits, IntKind.signed] at hi; omega
  refine ⟨i.toNat, by omega, ?_⟩
  rw [show ((i.toNat : Nat) : Int) = i by omega]
set_option maxHeartbeats 8000000 in
theorem lucasSteps_walk (q : Raw) (rq : InR q.2.2) (lq : q.2.2.length < 9223372036854775808) (n i j : Nat) (hn : n < 256) (hi : i < 4294967296) (hj : j < 4294967296) : denP E 10 [ivr q, .int .u8 n, .int .u32 i, .int .u32 j] = some (.ret (.bool true)) := by
  obtain ⟨⟨fa, a⟩, s1, h2, ha, hf⟩ := small_walk q rq lq
  dsimp only at s1 h2 ha hf
  refine denP_eq E10 rfl (by simp [AV.pureL, AV.pure, pure_wd]) ?_
  obtain ⟨k, hk⟩ : ∃ k, k = 2 + n % 29 := ⟨_, rfl⟩
  have c1 : (n : Int).tmod 29 = ((n % 29 : Nat) : Int) := by rw [Int.tmod_eq_emod_of_nonneg (by omega)]; omega
  have w1 : IntKind.i64.wrap (n : Int) = (n : Int) := wrap64 (by omega) (by omega)
  have c2 : IntKind.i64.wrap (2 + ((n % 29 : Nat) : Int)) = (k : Int) := by rw [wrap64 (by omega) (by omega)]; omega
  have c3 : IntKind.i64.wrap ((n % 29 : Nat) : Int) = ((n % 29 : Nat) : Int) := wrap64 (by omega) (by omega)
  obtain ⟨⟨f1, f2⟩, b1, _⟩ := both_spec a fa h2 ha k (by omega)
  dsimp only at b1
  have lx := chi_len h2 ha k
  have b2 := rBits_spec f1 (chi a k) (by omega)
  have hx1 := (nonneg (a := a) (by omega) k).1
  simp only [ivr, iv] at s1 ⊢
  by_cases hb : 4000 < bl (chi a k).natAbs
  · have z1 : ((4000 : Int) < (bl (chi a k).natAbs : Int)) = True := eq_true (by omega)
    clear lx hx1
    generalize chi a k = x at *
    simp (maxSteps := 4000000) only [go_sem, ↓reduceIte, Nat.reduceAdd, Nat.reduceSub, Nat.reduceMul, Nat.reduceEqDiff, reduceCtorEq, Int.reduceAdd, Int.reduceLT, Int.reduceLE, Int.reduceToNat, Int.reduceNeg, Int.reduceSub, ← List.map_take, ← List.map_drop, ne_eq, Nat.reduceLeDiff, Nat.reduceLT, Nat.zero_le, Nat.le_refl, wrap64, wrapu64, wrapu32, ← Int.natCast_add, ← Int.natCast_mul, cast_succ, wrapu32_nat, shr32, reps_wd, map_set_wd, List.length_set, zs_len, Try.f10, s1, c1, w1, c2, c3, b1, b2, z1, Int.reduceEq, awake8, places, fillAll, reps]
  · have z1 : ((4000 : Int) < (bl (chi a k).natAbs : Int)) = False := eq_false (by omega)
    have l125 := bl_len (z := chi a k) (k := 125) (by omega)
    have hmod : (decide (1 ≤ chi a k) && decide (bl (chi a k).natAbs ≤ 4000)) = true := by rw [decide_eq_true hx1, decide_eq_true (by omega)]; rfl
    obtain ⟨⟨g1, g2⟩, r1, _⟩ := rests_walk a (chi a k) fa f1 (by omega) hf (by omega) h2 hmod i (by omega)
    obtain ⟨⟨g3, g4⟩, r2, _⟩ := rests_walk a (chi a k) fa f1 (by omega) hf (by omega) h2 hmod j (by omega)
    dsimp only at r1 r2
    have lu : (dg (psi a i % chi a k)).length ≤ 125 := dg_mod l125 (by omega)
    have lv : (dg (psi a j % chi a k)).length ≤ 125 := dg_mod l125 (by omega)
    have t1 := rSame_spec g2 (psi a i % chi a k) g4 (psi a j % chi a k) (by omega) (by omega)
    obtain ⟨g5, t2, _⟩ := moduled_spec g2 (psi a i % chi a k) f1 (chi a k) (by omega) (by omega) (by omega)
    rw [Int.emod_emod] at t2
    have t3 := rSame_spec g5 (psi a i % chi a k) g2 (psi a i % chi a k) (by omega) (by omega)
    rw [decide_eq_true rfl] at t3
    have hs := steps_same a h2 k i j (by omega)
    have u1 : IntKind.i64.wrap (i : Int) = (i : Int) := wrap64 (by omega) (by omega)
    have u2 : IntKind.i64.wrap (j : Int) = (j : Int) := wrap64 (by omega) (by omega)
    have k1 : (((i : Int) - j).tmod ((4 * k : Nat) : Int) = 0) = (((i : Int) - j) % ((4 * k : Nat) : Int) = 0) := propext (tmod_zero (by omega))
    have k2 : (((i : Int) + j - 2 * k).tmod ((4 * k : Nat) : Int) = 0) = (((i : Int) + j - 2 * k) % ((4 * k : Nat) : Int) = 0) := propext (tmod_zero (by omega))
    have v1 : IntKind.i64.wrap ((i : Int) - j) = (i : Int) - j := wrap64 (by omega) (by omega)
    have v2 : IntKind.i64.wrap (4 * (k : Int)) = ((4 * k : Nat) : Int) := by rw [wrap64 (by omega) (by omega)]; omega
    have v3 : IntKind.i64.wrap ((i + j : Nat) : Int) = ((i + j : Nat) : Int) := wrap64 (by omega) (by omega)
    have v3' : IntKind.i64.wrap ((i : Int) + j) = (i : Int) + j := by rw [wrap64 (by omega) (by omega)]
    have v4 : IntKind.i64.wrap (2 * (k : Int)) = 2 * (k : Int) := wrap64 (by omega) (by omega)
    have v5 : IntKind.i64.wrap ((i : Int) + j - 2 * k) = (i : Int) + j - 2 * k := wrap64 (by omega) (by omega)
    have v6 : (((4 * k : Nat) : Int) = 0) = False := eq_false (by omega)
    have n1 : ∀ z : Int, -100000000000 < z → z < 100000000000 → IntKind.i64.wrap (z.tmod ((4 * k : Nat) : Int)) = z.tmod ((4 * k : Nat) : Int) := fun z h1 h2 => by
      have h3 := Int.natAbs_tmod z ((4 * k : Nat) : Int)
      have h4 := Nat.mod_lt z.natAbs (show 0 < ((4 * k : Nat) : Int).natAbs by omega)
      rw [wrap64 (by omega) (by omega)]
    have v7 := n1 ((i : Int) - j) (by omega) (by omega)
    have v8 := n1 ((i : Int) + j - 2 * k) (by omega) (by omega)
    clear n1 lu lv l125 hmod hx1 lx
    generalize hA : (i : Int) - j = A at *
    have hB' : ((i + j : Nat) : Int) - 2 * (k : Int) = (i : Int) + j - 2 * k := by omega
    generalize hB : (i : Int) + j - 2 * k = B at *
    generalize psi a i % chi a k = u at *
    generalize psi a j % chi a k = v at *
    generalize chi a k = x at *
    generalize hM : ((4 * k : Nat) : Int) = M at *
    have hPQ : ∃ P Q : Prop, (A.tmod M = 0) = P ∧ (B.tmod M = 0) = Q ∧ ((P = True ∧ decide (u = v) = true) ∨ (P = False ∧ Q = True ∧ decide (u = v) = true) ∨ (P = False ∧ Q = False ∧ decide (u = v) = false)) := by
      refine ⟨_, _, k1, k2, ?_⟩
      by_cases hA0 : A % M = 0
      · exact .inl ⟨eq_true hA0, decide_eq_true (hs.2 (.inl hA0))⟩
      · by_cases hB0 : B % M = 0
        · exact .inr (.inl ⟨eq_false hA0, eq_true hB0, decide_eq_true (hs.2 (.inr hB0))⟩)
        · exact .inr (.inr ⟨eq_false hA0, eq_false hB0, decide_eq_false fun h => (hs.1 h).elim hA0 hB0⟩)
    clear hs k1 k2
    obtain ⟨P, Q, k1, k2, h⟩ := hPQ
    rcases h with ⟨rfl, hd⟩ | ⟨rfl, rfl, hd⟩ | ⟨rfl, rfl, hd⟩ <;> rw [hd] at t1 <;> (
      simp (maxSteps := 4000000) only [go_sem, ↓reduceIte, Nat.reduceAdd, Nat.reduceSub, Nat.reduceMul, Nat.reduceEqDiff, reduceCtorEq, Int.reduceAdd, Int.reduceLT, Int.reduceLE, Int.reduceToNat, Int.reduceNeg, Int.reduceSub, ← List.map_take, ← List.map_drop, ne_eq, Nat.reduceLeDiff, Nat.reduceLT, Nat.zero_le, Nat.le_refl, wrap64, wrapu64, wrapu32, ← Int.natCast_add, ← Int.natCast_mul, cast_succ, wrapu32_nat, shr32, reps_wd, map_set_wd, List.length_set, zs_len, Try.f10, s1, c1, w1, c2, c3, b1, b2, z1, u1, u2, r1, r2, v1, v2, v3, v3', v4, v5, v6, v7, v8, k1, k2, hA, hB, hB', Int.reduceEq, awake8, places, fillAll, reps]
      refine W_drawn ?_
      simp (maxSteps := 4000000) only [go_sem, ↓reduceIte, Nat.reduceAdd, Nat.reduceSub, Nat.reduceMul, Nat.reduceEqDiff, reduceCtorEq, Int.reduceAdd, Int.reduceLT, Int.reduceLE, Int.reduceToNat, Int.reduceNeg, Int.reduceSub, ← List.map_take, ← List.map_drop, ne_eq, Nat.reduceLeDiff, Nat.reduceLT, Nat.zero_le, Nat.le_refl, wrap64, wrapu64, wrapu32, ← Int.natCast_add, ← Int.natCast_mul, cast_succ, wrapu32_nat, shr32, reps_wd, map_set_wd, List.length_set, zs_len, t1, t2, t3, awake8, places, fillAll, reps]
      refine okR_pairs ?_; (repeat ((with_unfolding_all refine And.intro ?_ ?_); (focus (rw [free_mk] <;> (try simp) <;> (try omega))))); (with_unfolding_all exact True.intro))
theorem lucasSteps_pure : lucasSteps.Pure := by
  intro xs h
  simp only [FitArgs, opn_eq, T1, T2, T3, T4, T5, T6, T7, T8, T9, T10, T11, T12, T13, T14, T15, T16, T17, T18, T19, T20, T21, T22, T23, T24, T25, T26, T27, T29, T30, T31, T33, T34, T35, T37, T38, T39, T40, T42, T43, T44, T45, T46, T47, T48, T50, T51, T53, T55, T56, T57, T58, T59, T60, T61, T62, T63, T64, T65, T66, T67, T68, T69, T70, T71, T72, T73, T74, T75, T76, T77, T78, T79, T80, T81, T82, T83, T84, T85, T86, T87, T88, T89, T90, T92, T94, T95, T96, T97, T98, T99, T100, T101, T102, T104, T105, T106, T107, T108, T109, T111, T112, T113, T115, T116, T117, T118, T119, T120, T121, T122, T123, T124, T125, T126, T127, T128, T129, T130, T131, T132, T133, elm] at h
  obtain ⟨c1, x1, y1, rfl, ⟨rfl, h1⟩, c2, x2, y2, rfl, ⟨rfl, h2⟩, c3, x3, y3, rfl, ⟨rfl, h3⟩, c4, x4, y4, rfl, ⟨rfl, h4⟩, rfl⟩ := h
  obtain ⟨qa, rfl, ra, na, la⟩ := fit_raw (m := 3) h1
  obtain ⟨n, hn, rfl⟩ := fit_u8 (m := 5) T5 h2
  obtain ⟨i, hi, rfl⟩ := fit_u32 (m := 5) T57 h3
  obtain ⟨j, hj, rfl⟩ := fit_u32 (m := 5) T57 h4
  unfold maxLen at la
  exact lucasSteps_walk qa ra (by omega) n i j hn hi hj
theorem lucasSteps_holds : Rows.LucasStepsSaid := lucasSteps.over lucasSteps_pure
#print axioms lucasSteps_holds
end Go.Proofs.Ytmgmcnoobgljpaa
