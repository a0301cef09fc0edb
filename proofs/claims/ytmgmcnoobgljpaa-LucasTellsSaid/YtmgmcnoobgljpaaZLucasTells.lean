/- Part 5 of a proof about this seat: RLucasTells, LTells. (Own work of this repo.) -/
import Derived.Test.YtmgmcnoobgljpaaZLucasTells4
import Derived.WalkKit
import Derived.ProofKit
import Derived.OpenShut
import Derived.ShutString
import Derived.ChangeOld
import Derived.Below
import Derived.SizedLaws
set_option linter.unusedVariables false
set_option linter.unusedSimpArgs false
/- The row of LucasTells, out of what the machine over pure values says. (Own work of this repo.) -/
namespace Go.Proofs.Ytmgmcnoobgljpaa
namespace lucasTells
open Go.ChangeShapes Go.WideShapes Go.ChangeAt Go.RowKit
def Pure : Prop := ∀ xs, Vm.FitArgs E [24, 3] xs → Vm.denP E 3 xs = some (.ret (.bool true))
theorem own : ownKnob Try.prog.godebug = none := by kernel_rfl
set_option maxRecDepth 100000 in
theorem lifted (hP : Pure) (os : Os) (started : os.Started) (H : Type) (enc : TypeId × Value → H) :
    ReturnsInHanded {} Try.checked os 3 .any (Rows.lucasTellsSpec.pre6 enc Try.prog Try.f3 Rows.lucasTellsRow.domain false) (Rows.lucasTellsSpec.post enc Try.prog Try.f3 false true false false) := by
  refine returnsInHanded_of_change_sized (C := Try.checked) own started (by kernel_rfl) Try.func3
    (ChangeSpec.witness6 (enc := enc) (C := Try.checked) false ⟨#[], #[(.agg #[.bool false, .slice none 0 0]), (.int .i64 0)], []⟩ 8 (by kernel_rfl) (by kernel_rfl) (by kernel_rfl) (by kernel_rfl)) ?_
  intro W base args ds gs before hval0 hW hcnd hsz0 _
  have hval : ∀ (j : Nat) t v, Try.f3.params[j]? = some t → args[j]? = some v → Value.okWide Try.prog W .any base t v := hval0
  have hW' := hW
  obtain ⟨p, q, hA0, hV, rfl, hfz, hnd⟩ := hW
  have hA : DataW.TrodAll enc Try.prog W 0 (fun _ => true) true Try.f3.params.toList args.toList ds p := hA0
  have hpar : Try.f3.params.toList = [24, 3] := by rw [Try.params3]
  rw [hpar] at hA
  obtain ⟨xs, hfit, hrep, hpure, hst⟩ := Vm.open_args eok.toEOk (by kernel_rfl) _ _ _ _ (by kernel_rfl) hA (fun j t v ht hv => ⟨_, _, hval j t v (by rw [← Array.getElem?_toList, hpar]; exact ht) (by rw [← Array.getElem?_toList]; exact hv)⟩)
  have hlen := Vm.trodAll_len hA
  obtain ⟨rfl, rfl⟩ := trodVars_none hV
  clear hA0 hval0 hsz0 hval hA hcnd
  match ds, hlen, hst, hW' with
  | [d0, d1], _, hst, hW =>
    refine (Vm.denP_calls eok (hP xs hfit) W args hrep hpure).mono fun e W' ⟨bel, v, he, hv⟩ => ?_
    subst he
    obtain rfl := Vm.rep_bool hv
    exact ⟨_, rfl, _, _, _, [], _, [], hW, trodAll_mk1 (shut_bool Try.underlying4 _), (by rw [hpar]; exact hst W' bel), rfl, bel.frame _, fun h => by cases h⟩
theorem over (hP : Pure) : Rows.lucasTellsRow.holds Try.pinned (OpenSpec.ofChange Rows.lucasTellsSpec) :=
  OpenClaim.holds_of_wide 3 Try.f3 rfl rfl rfl rfl rfl rfl rfl ⟨rfl, rfl, rfl, rfl, rfl⟩ rfl rfl rfl rfl rfl (by kernel_rfl) Try.func3 (by kernel_rfl)
    (of_decide_eq_true (by kernel_rfl)) (by unfold Func.isWrapper; first | (rw [if_pos (by decide +kernel)]; kernel_rfl) | (rw [if_neg (by decide +kernel)]; exact ⟨rfl, rfl⟩))
    (fun os started H enc _ => lifted hP os started H enc)
end lucasTells

end Go.Proofs.Ytmgmcnoobgljpaa

/- The law LucasTells. (Own work of this repo.) -/
namespace Go.Proofs.Ytmgmcnoobgljpaa
open Vm Luc
set_option maxRecDepth 10000

theorem number_ok (f g : Bool) (z : Int) (h : (dg z).length < 2 ^ 60) : denP E 18 [I f (fit z), .int .i64 (er z), I g z, .int .i64 (er z)] = some (.ret (.bool true)) := by
  by_cases h1 : (dg z).length ≤ 4096
  · have := number_spec f (fit z) (er z) g z (er z) (by rw [fit_of h1]; exact h) h
    rw [this, fit_of h1, er_of h1]
    simp
  · have := number_spec f (fit z) (er z) g z (er z) (by rw [fit_no h1, dg_zero]; simp) h
    rw [this, fit_no h1, er_no h1]
    simp
theorem number_bad (f g : Bool) (w : Int) (hw : w ≠ 0) : denP E 18 [I f 0, .int .i64 w, I g 0, .int .i64 w] = some (.ret (.bool true)) := by
  rw [number_spec f 0 w g 0 w (by rw [dg_zero]; simp) (by rw [dg_zero]; simp), if_pos hw]
  simp
abbrev tellP (q : Raw) (n : Int) : Prop := denP E 3 [ivr q, .int .i64 n] = some (.ret (.bool true))
theorem tells_far (q : Raw) (n : Int) (h : shortW 100 q = false ∨ (2000 < n ∧ n ≤ 140000)) : tellP q n := by
  have hs := short_walk 100 [q] (by simp) (by decide)
  simp only [List.map_cons, List.map_nil, List.all_cons, List.all_nil, Bool.and_true, Int.cast_ofNat_Int] at hs
  refine denP_eq E3 rfl (by simp [AV.pureL, AV.pure, pure_wd]) ?_
  simp only [ivr, iv] at hs ⊢
  cases hd : shortW 100 q with
  | false =>
    rw [hd] at hs
    by_cases h1 : 2000 < n
    · have z1 : (2000 < n) = True := eq_true h1
      simp (maxSteps := 4000000) only [go_sem, ↓reduceIte, Nat.reduceAdd, Nat.reduceSub, Nat.reduceMul, Nat.reduceEqDiff, reduceCtorEq, Int.reduceAdd, Int.reduceLT, Int.reduceLE, Int.reduceToNat, Int.reduceNeg, Int.reduceSub, ← List.map_take, ← List.map_drop, ne_eq, Nat.reduceLeDiff, Nat.reduceLT, Nat.zero_le, Nat.le_refl, wrap64, wrapu64, wrapu32, ← Int.natCast_add, ← Int.natCast_mul, cast_succ, wrapu32_nat, shr32, reps_wd, map_set_wd, List.length_set, zs_len, Try.f3, hs, z1, awake8, places, fillAll, reps, refP, elems]
    · have z1 : (2000 < n) = False := eq_false h1
      simp (maxSteps := 4000000) only [go_sem, ↓reduceIte, Nat.reduceAdd, Nat.reduceSub, Nat.reduceMul, Nat.reduceEqDiff, reduceCtorEq, Int.reduceAdd, Int.reduceLT, Int.reduceLE, Int.reduceToNat, Int.reduceNeg, Int.reduceSub, ← List.map_take, ← List.map_drop, ne_eq, Nat.reduceLeDiff, Nat.reduceLT, Nat.zero_le, Nat.le_refl, wrap64, wrapu64, wrapu32, ← Int.natCast_add, ← Int.natCast_mul, cast_succ, wrapu32_nat, shr32, reps_wd, map_set_wd, List.length_set, zs_len, Try.f3, hs, z1, awake8, places, fillAll, reps, refP, elems]
  | true =>
    rw [hd] at hs h
    have z1 : (2000 < n) = True := eq_true (h.resolve_left (by intro e; cases e)).1
    have z2 : (n ≤ 140000) = True := eq_true (h.resolve_left (by intro e; cases e)).2
    simp (maxSteps := 4000000) only [go_sem, ↓reduceIte, Nat.reduceAdd, Nat.reduceSub, Nat.reduceMul, Nat.reduceEqDiff, reduceCtorEq, Int.reduceAdd, Int.reduceLT, Int.reduceLE, Int.reduceToNat, Int.reduceNeg, Int.reduceSub, ← List.map_take, ← List.map_drop, ne_eq, Nat.reduceLeDiff, Nat.reduceLT, Nat.zero_le, Nat.le_refl, wrap64, wrapu64, wrapu32, ← Int.natCast_add, ← Int.natCast_mul, cast_succ, wrapu32_nat, shr32, reps_wd, map_set_wd, List.length_set, zs_len, Try.f3, hs, z1, z2, awake8, places, fillAll, reps, refP, elems]
/-- Where the sequences are refused. -/
theorem tells_no (q : Raw) (n : Int) (hs : shortW 100 q = true) (hn : n ≤ 2000 ∨ 140000 < n) (w c : Int) (hw : w ≠ 0) (hp : denP E 15 [ivr q, .int .i64 n] = some (.ret (EI w))) (hx : denP E 16 [ivr q, .int .i64 n] = some (.ret (EI w)))
    (hc : denP E 17 [ivr q] = some (.ret (.int .i64 c))) (h : (c = w) ∨ (c = 0 ∧ w = 2 ∧ n < 0) ∨ (c = 0 ∧ w = 4 ∧ 140000 < n)) : tellP q n := by
  have hs' := short_walk 100 [q] (by simp) (by decide)
  simp only [List.map_cons, List.map_nil, List.all_cons, List.all_nil, Bool.and_true, Int.cast_ofNat_Int, hs] at hs'
  refine denP_eq E3 rfl (by simp [AV.pureL, AV.pure, pure_wd]) ?_
  have hb := number_bad true true w hw
  simp only [ivr, iv] at hs' hp hx hc ⊢
  have z0 : (w = 0) = False := eq_false hw
  rcases h with rfl | ⟨rfl, rfl, h⟩ | ⟨rfl, rfl, h⟩
  · by_cases h1 : 2000 < n
    · have z1 : (2000 < n) = True := eq_true h1
      have z2 : (n ≤ 140000) = False := eq_false (by omega)
      simp (maxSteps := 4000000) only [go_sem, ↓reduceIte, Nat.reduceAdd, Nat.reduceSub, Nat.reduceMul, Nat.reduceEqDiff, reduceCtorEq, Int.reduceAdd, Int.reduceLT, Int.reduceLE, Int.reduceToNat, Int.reduceNeg, Int.reduceSub, ← List.map_take, ← List.map_drop, ne_eq, Nat.reduceLeDiff, Nat.reduceLT, Nat.zero_le, Nat.le_refl, wrap64, wrapu64, wrapu32, ← Int.natCast_add, ← Int.natCast_mul, cast_succ, wrapu32_nat, shr32, reps_wd, map_set_wd, List.length_set, zs_len, Try.f3, hs', z0, z1, z2, hp, hx, hc, hb, awake8, places, fillAll, reps, refP, elems]
    · have z1 : (2000 < n) = False := eq_false h1
      simp (maxSteps := 4000000) only [go_sem, ↓reduceIte, Nat.reduceAdd, Nat.reduceSub, Nat.reduceMul, Nat.reduceEqDiff, reduceCtorEq, Int.reduceAdd, Int.reduceLT, Int.reduceLE, Int.reduceToNat, Int.reduceNeg, Int.reduceSub, ← List.map_take, ← List.map_drop, ne_eq, Nat.reduceLeDiff, Nat.reduceLT, Nat.zero_le, Nat.le_refl, wrap64, wrapu64, wrapu32, ← Int.natCast_add, ← Int.natCast_mul, cast_succ, wrapu32_nat, shr32, reps_wd, map_set_wd, List.length_set, zs_len, Try.f3, hs', z0, z1, hp, hx, hc, hb, awake8, places, fillAll, reps, refP, elems]
  · have z1 : (2000 < n) = False := eq_false (by omega)
    have z2 : (n < 0) = True := eq_true h
    simp (maxSteps := 4000000) only [go_sem, ↓reduceIte, Nat.reduceAdd, Nat.reduceSub, Nat.reduceMul, Nat.reduceEqDiff, reduceCtorEq, Int.reduceAdd, Int.reduceLT, Int.reduceLE, Int.reduceToNat, Int.reduceNeg, Int.reduceSub, ← List.map_take, ← List.map_drop, ne_eq, Nat.reduceLeDiff, Nat.reduceLT, Nat.zero_le, Nat.le_refl, wrap64, wrapu64, wrapu32, ← Int.natCast_add, ← Int.natCast_mul, cast_succ, wrapu32_nat, shr32, reps_wd, map_set_wd, List.length_set, zs_len, Try.f3, hs', z0, z1, z2, hp, hx, hc, hb, Int.reduceEq, awake8, places, fillAll, reps, refP, elems]
  · have z1 : (2000 < n) = True := eq_true (by omega)
    have z2 : (n ≤ 140000) = False := eq_false (by omega)
    have z3 : (n < 0) = False := eq_false (by omega)
    have z4 : (140000 < n) = True := eq_true h
    simp (maxSteps := 4000000) only [go_sem, ↓reduceIte, Nat.reduceAdd, Nat.reduceSub, Nat.reduceMul, Nat.reduceEqDiff, reduceCtorEq, Int.reduceAdd, Int.reduceLT, Int.reduceLE, Int.reduceToNat, Int.reduceNeg, Int.reduceSub, ← List.map_take, ← List.map_drop, ne_eq, Nat.reduceLeDiff, Nat.reduceLT, Nat.zero_le, Nat.le_refl, wrap64, wrapu64, wrapu32, ← Int.natCast_add, ← Int.natCast_mul, cast_succ, wrapu32_nat, shr32, reps_wd, map_set_wd, List.length_set, zs_len, Try.f3, hs', z0, z1, z2, z3, z4, hp, hx, hc, hb, Int.reduceEq, awake8, places, fillAll, reps, refP, elems]
theorem tells_yes (a : Int) (fa : Bool) (ha : (dg a).length ≤ 100) (h2 : 2 ≤ a) (n : Nat) (hn : n ≤ 2000) : denP E 3 [I fa a, .int .i64 n] = some (.ret (.bool true)) := by
  have hs' := short_walk 100 [(ng a, fa, dg a)] (by simp) (by decide)
  have hs : shortW 100 (ng a, fa, dg a) = true := decide_eq_true ha
  simp only [List.map_cons, List.map_nil, List.all_cons, List.all_nil, Bool.and_true, Int.cast_ofNat_Int, hs] at hs'
  refine denP_eq E3 rfl (by simp [AV.pureL, AV.pure, pure_wd]) ?_
  obtain ⟨fp, p1⟩ := psi_el a fa (by omega) h2 n (by omega)
  obtain ⟨fc, c1⟩ := chi_el a fa (by omega) h2 n (by omega)
  have p2 := psi_of _ _ _ _ _ _ p1
  have c2 := chi_of _ _ _ _ _ _ c1
  have hc := code_ok fa a (by omega)
  rw [if_pos h2] at hc
  obtain ⟨⟨g1, g2⟩, hp, _⟩ := pair_spec a fa ha h2 n (by omega)
  dsimp only at hp
  have z1 : (2000 < (n : Int)) = False := eq_false (by omega)
  have z2 : ((n : Int) < 0) = False := eq_false (by omega)
  have z3 : (140000 < (n : Int)) = False := eq_false (by omega)
  clear p1 c1
  simp only [ivr, iv] at hs'
  by_cases hl : (dg (psi a n)).length ≤ 8192
  · rw [if_pos hl] at hp
    obtain ⟨_, b2, _⟩ := dg_psi h2 ha n hl
    have n1 := number_ok fp g2 (psi a n) (by omega)
    have n2 := number_ok fc g1 (chi a n) (by omega)
    have t1 := rFits_spec g2 (psi a n)
    have t2 := rFits_spec g1 (chi a n)
    have key : ∀ (z : Int), (er z = 0 ∧ decide ((dg z).length ≤ 4096) = true) ∨ (er z = 4 ∧ decide ((dg z).length ≤ 4096) = false) := fun z => by
      rcases er_cases z with ⟨h, h'⟩ | ⟨h, h'⟩
      · exact .inl ⟨h, decide_eq_true h'⟩
      · exact .inr ⟨h, decide_eq_false h'⟩
    rcases key (psi a n) with ⟨e1, d1⟩ | ⟨e1, d1⟩ <;> rcases key (chi a n) with ⟨e2, d2⟩ | ⟨e2, d2⟩ <;> rw [e1] at p2 n1 <;> rw [e2] at c2 n2 <;> rw [d1] at t1 <;> rw [d2] at t2 <;> clear e1 d1 e2 d2 key b2 hl hs
    · simp (maxSteps := 4000000) only [go_sem, ↓reduceIte, Nat.reduceAdd, Nat.reduceSub, Nat.reduceMul, Nat.reduceEqDiff, reduceCtorEq, Int.reduceAdd, Int.reduceLT, Int.reduceLE, Int.reduceToNat, Int.reduceNeg, Int.reduceSub, ← List.map_take, ← List.map_drop, ne_eq, Nat.reduceLeDiff, Nat.reduceLT, Nat.zero_le, Nat.le_refl, wrap64, wrapu64, wrapu32, ← Int.natCast_add, ← Int.natCast_mul, cast_succ, wrapu32_nat, shr32, reps_wd, map_set_wd, List.length_set, zs_len, Try.f3, hs', z1, z2, z3, p2, c2, hc, hp, n1, n2, t1, t2, Int.reduceEq, awake8, places, fillAll, reps, refP, elems]
    · simp (maxSteps := 4000000) only [go_sem, ↓reduceIte, Nat.reduceAdd, Nat.reduceSub, Nat.reduceMul, Nat.reduceEqDiff, reduceCtorEq, Int.reduceAdd, Int.reduceLT, Int.reduceLE, Int.reduceToNat, Int.reduceNeg, Int.reduceSub, ← List.map_take, ← List.map_drop, ne_eq, Nat.reduceLeDiff, Nat.reduceLT, Nat.zero_le, Nat.le_refl, wrap64, wrapu64, wrapu32, ← Int.natCast_add, ← Int.natCast_mul, cast_succ, wrapu32_nat, shr32, reps_wd, map_set_wd, List.length_set, zs_len, Try.f3, hs', z1, z2, z3, p2, c2, hc, hp, n1, n2, t1, t2, Int.reduceEq, awake8, places, fillAll, reps, refP, elems]
    · simp (maxSteps := 4000000) only [go_sem, ↓reduceIte, Nat.reduceAdd, Nat.reduceSub, Nat.reduceMul, Nat.reduceEqDiff, reduceCtorEq, Int.reduceAdd, Int.reduceLT, Int.reduceLE, Int.reduceToNat, Int.reduceNeg, Int.reduceSub, ← List.map_take, ← List.map_drop, ne_eq, Nat.reduceLeDiff, Nat.reduceLT, Nat.zero_le, Nat.le_refl, wrap64, wrapu64, wrapu32, ← Int.natCast_add, ← Int.natCast_mul, cast_succ, wrapu32_nat, shr32, reps_wd, map_set_wd, List.length_set, zs_len, Try.f3, hs', z1, z2, z3, p2, c2, hc, hp, n1, n2, t1, t2, Int.reduceEq, awake8, places, fillAll, reps, refP, elems]
    · simp (maxSteps := 4000000) only [go_sem, ↓reduceIte, Nat.reduceAdd, Nat.reduceSub, Nat.reduceMul, Nat.reduceEqDiff, reduceCtorEq, Int.reduceAdd, Int.reduceLT, Int.reduceLE, Int.reduceToNat, Int.reduceNeg, Int.reduceSub, ← List.map_take, ← List.map_drop, ne_eq, Nat.reduceLeDiff, Nat.reduceLT, Nat.zero_le, Nat.le_refl, wrap64, wrapu64, wrapu32, ← Int.natCast_add, ← Int.natCast_mul, cast_succ, wrapu32_nat, shr32, reps_wd, map_set_wd, List.length_set, zs_len, Try.f3, hs', z1, z2, z3, p2, c2, hc, hp, n1, n2, t1, t2, Int.reduceEq, awake8, places, fillAll, reps, refP, elems]
  · rw [if_neg hl] at hp
    have l1 : ¬ (dg (psi a n)).length ≤ 4096 := by omega
    have l2 : ¬ (dg (chi a n)).length ≤ 4096 := fun h => l1 (Nat.le_trans (dg_mono (by
      have q1 := psi_lt_chi (a := a) h2 n
      have q2 := (nonneg (a := a) (by omega) n).2
      omega)) h)
    rw [fit_no l1, er_no l1] at p2
    rw [fit_no l2, er_no l2] at c2
    have n1 := number_bad fp true 4 (by decide)
    have n2 := number_bad fc true 4 (by decide)
    simp (maxSteps := 4000000) only [go_sem, ↓reduceIte, Nat.reduceAdd, Nat.reduceSub, Nat.reduceMul, Nat.reduceEqDiff, reduceCtorEq, Int.reduceAdd, Int.reduceLT, Int.reduceLE, Int.reduceToNat, Int.reduceNeg, Int.reduceSub, ← List.map_take, ← List.map_drop, ne_eq, Nat.reduceLeDiff, Nat.reduceLT, Nat.zero_le, Nat.le_refl, wrap64, wrapu64, wrapu32, ← Int.natCast_add, ← Int.natCast_mul, cast_succ, wrapu32_nat, shr32, reps_wd, map_set_wd, List.length_set, zs_len, Try.f3, hs', z1, z2, z3, p2, c2, hc, hp, n1, n2, Int.reduceEq, awake8, places, fillAll, reps, refP, elems]
theorem lucasTells_walk (q : Raw) (rq : InR q.2.2) (n : Int) : tellP q n := by
  by_cases h1 : 2000 < n ∧ n ≤ 140000
  · exact tells_far q n (.inr h1)
  cases hs : shortW 100 q with
  | false => exact tells_far q n (.inl hs)
  | true =>
    have hn : n ≤ 2000 ∨ 140000 < n := by omega
    have lq : q.2.2.length < 2 ^ 40 := by have : q.2.2.length ≤ 100 := of_decide_eq_true hs; omega
    cases hv : rvl q with
    | false => exact tells_no q n hs hn 1 1 (by decide) (psi_ofr _ _ _ _ _ (element_psi_form q lq hv n)) (chi_ofr _ _ _ _ _ (element_chi_form q lq hv n)) (code_bad q lq hv) (.inl rfl)
    | true =>
      have hl : q.2.2.length ≤ 100 := of_decide_eq_true hs
      obtain ⟨hl', a, h3, h4⟩ := rvalid_norm (neg := q.1) rq (by rw [valid_same]; exact hv)
      have ha : (dg a).length ≤ 100 := by rw [h4]; exact hl
      obtain ⟨neg, fa, l⟩ := q
      dsimp only at h3 h4
      subst h3 h4
      have hc := code_ok fa a (by omega)
      by_cases h2 : 2 ≤ a
      · rw [if_pos h2] at hc
        by_cases h0 : n < 0
        · exact tells_no _ n hs hn 2 0 (by decide) (psi_of fa a n true 0 2 (element_psi_arg a fa (by omega) n (.inr h0))) (chi_of fa a n true 0 2 (element_chi_arg a fa (by omega) n (.inr h0))) hc (.inr (.inl ⟨rfl, rfl, h0⟩))
        · by_cases h5 : 140000 < n
          · exact tells_no _ n hs hn 4 0 (by decide) (psi_of fa a n true 0 4 (element_psi_size a fa (by omega) h2 n (by omega))) (chi_of fa a n true 0 4 (element_chi_size a fa (by omega) h2 n (by omega))) hc (.inr (.inr ⟨rfl, rfl, h5⟩))
          · obtain ⟨k, rfl⟩ := Int.eq_ofNat_of_zero_le (show 0 ≤ n by omega)
            exact tells_yes a fa ha h2 k (by omega)
      · rw [if_neg h2] at hc
        exact tells_no _ n hs hn 2 2 (by decide) (psi_of fa a n true 0 2 (element_psi_arg a fa (by omega) n (.inl (by omega)))) (chi_of fa a n true 0 2 (element_chi_arg a fa (by omega) n (.inl (by omega)))) hc (.inl rfl)
theorem fit_int {m : Nat} {cs : List AV} (h : Fit E (m + 1) 3 cs) : ∃ n : Int, -9223372036854775808 ≤ n ∧ n < 9223372036854775808 ∧ cs = [.int .i64 n] := by
  simp only [Fit, T3, FitD] at h
  obtain ⟨_, i, rfl, hi⟩ := h
  have hi' : -9223372036854775808 ≤ i ∧ i < 9223372036854775808 := by simp [Lit.wf, IntKind.max, IntKind.min, IntKind.bits, IntKind.signed] at hi; omega
  exact ⟨i, hi'.1, hi'.2, rfl⟩
theorem lucasTells_pure : lucasTells.Pure := by
  intro xs h
  simp only [FitArgs, opn_eq, T1, T2, T3, T4, T5, T6, T7, T8, T9, T10, T11, T12, T13, T14, T15, T16, T17, T18, T19, T20, T21, T22, T23, T24, T25, T26, T27, T29, T30, T31, T33, T34, T35, T37, T38, T39, T40, T42, T43, T44, T45, T46, T47, T48, T50, T51, T53, T55, T56, T57, T58, T59, T60, T61, T62, T63, T64, T65, T66, T67, T68, T69, T70, T71, T72, T73, T74, T75, T76, T77, T78, T79, T80, T81, T82, T83, T84, T85, T86, T87, T88, T89, T90, T92, T94, T95, T96, T97, T98, T99, T100, T101, T102, T104, T105, T106, T107, T108, T109, T111, T112, T113, T115, T116, T117, T118, T119, T120, T121, T122, T123, T124, T125, T126, T127, T128, T129, T130, T131, T132, T133, elm] at h
  obtain ⟨c1, x1, y1, rfl, ⟨rfl, h1⟩, c2, x2, y2, rfl, ⟨rfl, h2⟩, rfl⟩ := h
  obtain ⟨qa, rfl, ra, na, la⟩ := fit_raw (m := 3) h1
  obtain ⟨n, hn1, hn2, rfl⟩ := fit_int (m := 5) h2
  exact lucasTells_walk qa ra n
theorem lucasTells_holds : Rows.LucasTellsSaid := lucasTells.over lucasTells_pure
#print axioms lucasTells_holds
end Go.Proofs.Ytmgmcnoobgljpaa
