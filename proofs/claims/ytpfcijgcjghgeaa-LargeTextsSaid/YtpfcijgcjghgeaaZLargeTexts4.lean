/- Part 4 of a proof about this seat: Txt2, Prs2. (Own work of this repo.) -/
import Derived.Test.YtpfcijgcjghgeaaZLargeTexts3
set_option linter.unusedVariables false
set_option linter.unusedSimpArgs false
/- Walks of the reference of chapter 1: the text of a number. (Own work of this repo.) -/
namespace Go.Proofs.Ytpfcijgcjghgeaa
open Vm
set_option maxRecDepth 100000

/-- One more pair changes places. -/
def Rev (l p : List Nat) (i : Nat) : Prop := ∀ t, t < l.length → p.getD t 0 = if t < i ∨ l.length ≤ t + i then l.getD (l.length - 1 - t) 0 else l.getD t 0
theorem rev_step {l p : List Nat} {i j : Nat} (hp : p.length = l.length) (hj : j = l.length - 1 - i) (hij : i < j) (h : Rev l p i) : Rev l ((p.set i (p.getD j 0)).set j (p.getD i 0)) (i + 1) := by
  intro t ht
  have h1 := h i (by omega)
  have h2 := h j (by omega)
  rw [if_neg (by omega)] at h1 h2
  by_cases htj : t = j
  · subst htj
    rw [lget_set_self (by rw [List.length_set]; omega), h1, if_pos (by omega)]
    congr 1; omega
  · rw [lget_set_ne (fun e => htj e.symm)]
    by_cases hti : t = i
    · subst hti
      rw [lget_set_self (by omega), h2, if_pos (by omega)]
      congr 1
    · rw [lget_set_ne (fun e => hti e.symm), h t ht]
      by_cases hq : t < i ∨ l.length ≤ t + i
      · rw [if_pos hq, if_pos (by omega)]
      · rw [if_neg hq, if_neg (by omega)]
theorem rev_done {l p : List Nat} {i : Nat} (hp : p.length = l.length) (h : Rev l p i) (hi : l.length ≤ 2 * i + 1) : p = l.reverse := by
  refine List.ext_getElem (by rw [List.length_reverse, hp]) fun t h1 h2 => ?_
  have h3 := h t (by omega)
  rw [List.getD_eq_getElem?_getD, List.getElem?_eq_getElem h1] at h3
  simp only [Option.getD_some] at h3
  rw [h3, List.getElem_reverse]
  by_cases hq : t < i ∨ l.length ≤ t + i
  · rw [if_pos hq, List.getD_eq_getElem?_getD, List.getElem?_eq_getElem (by omega)]; rfl
  · rw [if_neg hq, List.getD_eq_getElem?_getD, List.getElem?_eq_getElem (by omega)]
    simp only [Option.getD_some]
    congr 1; omega
theorem rev_zero (l : List Nat) : Rev l l 0 := fun t ht => by rw [if_neg (by omega)]
set_option maxHeartbeats 4000000 in
theorem rText_spec (m : Bool) (a : Int) (ha : (dg a).length ≤ 4096) : denP E 53 [I m a] = some (.ret (.str (bstr (txt a)))) := by
  refine denP_eq E53 rfl (by simp [AV.pureL, AV.pure, pure_wd]) ?_
  have h1 := rZero_spec m a
  by_cases h0 : a = 0
  · subst h0
    have e : bstr (txt 0) = ⟨#[48]⟩ := rfl
    rw [e]
    simp only [I, ng_zero, dg_zero, List.map_nil, decide_true] at h1
    simp (maxSteps := 4000000) (disch := omega) only [go_sem, ↓reduceIte, Nat.reduceAdd, Nat.reduceSub, Nat.reduceMul, Nat.reduceEqDiff, reduceCtorEq, Int.reduceAdd, Int.reduceLT, Int.reduceLE, Int.reduceToNat, Int.reduceNeg, Int.reduceSub, ← List.map_take, ← List.map_drop, wrap64, wrapu64, wrapu32, ← Int.natCast_add, ← Int.natCast_mul, cast_succ, wrapu32_nat, shr32, reps_wd, map_set_wd, List.length_set, zs_len, Try.f53, h1, ng_zero, dg_zero, List.map_nil]
  · have hl := dg_pos.2 h0
    rw [decide_eq_false h0] at h1
    obtain ⟨A, hA⟩ : ∃ A, A = a.natAbs := ⟨_, rfl⟩
    have hA0 : A ≠ 0 := by omega
    obtain ⟨L, hLL⟩ : ∃ L, L = 4096 := ⟨_, rfl⟩
    obtain ⟨K, hK⟩ : ∃ K, K = 43691 := ⟨_, rfl⟩
    have hddl : (dd A).length ≤ K := dd_len (by
      have h9 := valid_len (k := L) (by rw [hLL]; exact ha)
      rw [← hA] at h9
      exact Nat.lt_of_lt_of_le h9 (Nat.pow_le_pow_right (by decide) (by omega)))
    have hdA : dg a = dig A := by rw [hA]; rfl
    simp (maxSteps := 4000000) (disch := omega) only [go_sem, ↓reduceIte, Nat.reduceAdd, Nat.reduceSub, Nat.reduceMul, Nat.reduceEqDiff, reduceCtorEq, Int.reduceAdd, Int.reduceLT, Int.reduceLE, Int.reduceToNat, Int.reduceNeg, Int.reduceSub, ← List.map_take, ← List.map_drop, wrap64, wrapu64, wrapu32, ← Int.natCast_add, ← Int.natCast_mul, cast_succ, wrapu32_nat, shr32, reps_wd, map_set_wd, List.length_set, zs_len, Try.f53, h1]
    refine W_loopS (fun N sl H nx => ∃ (v : AV) (pre : List Nat) (f : Bool), (∃ g : Nat → AV, sl = [g 0, .ptr 0 0, g 2, v, .lst f ((dig N).map wd), g 5, g 6, g 7, g 8, g 9, g 10, g 11, g 12, g 13, g 14, g 15, g 16, g 17, g 18, g 19, g 20, g 21, g 22, g 23, g 24, g 25, g 26, g 27, g 28, g 29, g 30, g 31, g 32, g 33, g 34, g 35, g 36, g 37, g 38, g 39, g 40, g 41, g 42, g 43, g 44, g 45, g 46, g 47, g 48, g 49, g 50, g 51, g 52, g 53, g 54, g 55, g 56, g 57, g 58, g 59, g 60, g 61, g 62, g 63, g 64, g 65, g 66, g 67, g 68, g 69, g 70, g 71, g 72, g 73, g 74, g 75, g 76, g 77, g 78, g 79, g 80]) ∧ 1 ≤ nx ∧
      H 0 = some ⟨[.bool (ng a), .lst m ((dg a).map wd)], true, 2, false⟩ ∧ Grow H nx v (pre.map (48 + ·)) ∧ N ≤ A ∧ Hd (pre ++ dd N = dd A)) A
      ⟨.lst true [], [], m, by rw [hdA]; exact garb rfl, Nat.le_refl 1, rfl, .inl ⟨rfl, rfl⟩, Nat.le_refl _, ⟨rfl⟩⟩ ?_
    clear h1
    rintro N _ H nx ⟨v, pre, f, ⟨g, rfl⟩, hnx, q0, hG, hNA, hpre⟩
    have hplen : pre.length ≤ K := by
      have := congrArg List.length hpre.out
      rw [List.length_append] at this; omega
    have lN : (dig N).length ≤ 4096 := Nat.le_trans (dig_mono hNA) (by rw [← hdA]; exact ha)
    by_cases hN0 : N = 0
    · subst hN0
      have hd0 : (dig 0).length = 0 := by rw [dig_zero]; rfl
      have hfin : pre = dd A := by have := hpre.out; rwa [dd_zero, List.append_nil] at this
      have hne : 0 < pre.length := by
        rw [hfin]; exact List.length_pos_iff.2 (fun e => hA0 (dd_nil.1 e))
      rcases hG with ⟨hG, _⟩ | ⟨hGl, id, hid0, hid, rfl, hGH⟩
      · have := congrArg List.length hG; simp at this; subst this; simp at hne
      · rw [List.length_map] at hGl
        rw [List.length_map] at *
        have htx : txt a = (if a < 0 then [45] else []) ++ ((pre.map (48 + ·)).reverse) := by rw [txt, if_neg h0, hfin, hA]
        obtain ⟨bs, hbs⟩ : ∃ bs, bs = pre.map (48 + ·) := ⟨_, rfl⟩
        rw [← hbs] at hGH htx
        have hbl : pre.length = bs.length := by rw [hbs, List.length_map]
        rw [hbl] at hplen hGl
        rw [htx, hbl]
        clear hpre htx hfin hbs hbl hne hddl
        cases hs : ng a with
        | false =>
          have hs0 := ng_false.1 hs
          rw [if_neg (show ¬ a < 0 by omega), List.nil_append]
          rw [hs] at q0
          simp (maxSteps := 4000000) (disch := omega) only [go_sem, ↓reduceIte, Nat.reduceAdd, Nat.reduceSub, Nat.reduceMul, Nat.reduceEqDiff, reduceCtorEq, Int.reduceAdd, Int.reduceLT, Int.reduceLE, Int.reduceToNat, Int.reduceNeg, Int.reduceSub, ← List.map_take, ← List.map_drop, wrap64, wrapu64, wrapu32, ← Int.natCast_add, ← Int.natCast_mul, cast_succ, wrapu32_nat, shr32, reps_wd, map_set_wd, List.length_set, zs_len, q0, hd0, hs]
          refine W_loopS (fun k sl H n3 => ∃ (i : Nat) (p : List Nat), (∃ g : Nat → AV, sl = [g 0, g 1, g 2, .ref id 0 bs.length, g 4, g 5, g 6, .int .i64 i, g 8, g 9, g 10, g 11, g 12, g 13, g 14, g 15, g 16, g 17, g 18, g 19, g 20, g 21, g 22, g 23, g 24, g 25, g 26, g 27, g 28, g 29, g 30, g 31, g 32, g 33, g 34, g 35, g 36, g 37, g 38, g 39, g 40, g 41, g 42, g 43, g 44, g 45, g 46, g 47, g 48, g 49, g 50, g 51, g 52, g 53, g 54, g 55, g 56, g 57, g 58, g 59, g 60, g 61, g 62, g 63, g 64, g 65, g 66, g 67, g 68, g 69, g 70, g 71, g 72, g 73, g 74, g 75, g 76, g 77, g 78, g 79, g 80]) ∧ H (id) = some ⟨p.map by8, false, 1, false⟩ ∧ p.length = bs.length ∧ i + k = bs.length / 2 ∧ Hd (Rev bs p i)) (bs.length / 2)
            ⟨0, bs, garb rfl, hGH, rfl, by omega, ⟨rev_zero _⟩⟩ ?_
          clear hGH q0
          rintro k _ H _ ⟨i, p, ⟨g, rfl⟩, hp, hpl, hik, hrev⟩
          have e1 : ((bs.length : Nat) : Int).tdiv 2 = ((bs.length / 2 : Nat) : Int) := rfl
          have e2 : ((bs.length : Nat) : Int) - 1 = ((bs.length - 1 : Nat) : Int) := by omega
          have hcl : (bs).length = bs.length := rfl
          by_cases hk0 : k = 0
          · have hfin := rev_done (hpl.trans hcl.symm) hrev.out (by omega)
            subst hfin
            have htk : List.take (bs.length) (bs).reverse = (bs).reverse := List.take_of_length_le (by omega)
            clear hrev
            simp (maxSteps := 4000000) (disch := omega) only [go_sem, ↓reduceIte, Nat.reduceAdd, Nat.reduceSub, Nat.reduceMul, Nat.reduceEqDiff, reduceCtorEq, Int.reduceAdd, Int.reduceLT, Int.reduceLE, Int.reduceToNat, Int.reduceNeg, Int.reduceSub, ← List.map_take, ← List.map_drop, wrap64, wrapu64, wrapu32, ← Int.natCast_add, ← Int.natCast_mul, cast_succ, wrapu32_nat, shr32, reps_wd, map_set_wd, List.length_set, zs_len, hp, e1, strEff, strOf, srcCells, htk, hpl, bytes_by]
            rfl
          · obtain ⟨j, hj⟩ : ∃ j, j = bs.length - 1 - i := ⟨_, rfl⟩
            have e3 : ((bs.length - 1 : Nat) : Int) - (i : Int) = (j : Int) := by omega
            have hst := rev_step (hpl.trans hcl.symm) (show j = (bs).length - 1 - i by omega) (by omega) hrev.out
            replace hst := Hd.mk hst
            clear hrev
            simp (maxSteps := 4000000) (disch := omega) only [go_sem, ↓reduceIte, Nat.reduceAdd, Nat.reduceSub, Nat.reduceMul, Nat.reduceEqDiff, reduceCtorEq, Int.reduceAdd, Int.reduceLT, Int.reduceLE, Int.reduceToNat, Int.reduceNeg, Int.reduceSub, ← List.map_take, ← List.map_drop, wrap64, wrapu64, wrapu32, ← Int.natCast_add, ← Int.natCast_mul, cast_succ, wrapu32_nat, shr32, reps_wd, map_set_wd, List.length_set, zs_len, hp, e1]
            refine W_drawn2 ?_
            simp (maxSteps := 4000000) (disch := omega) only [go_sem, ↓reduceIte, Nat.reduceAdd, Nat.reduceSub, Nat.reduceMul, Nat.reduceEqDiff, reduceCtorEq, Int.reduceAdd, Int.reduceLT, Int.reduceLE, Int.reduceToNat, Int.reduceNeg, Int.reduceSub, ← List.map_take, ← List.map_drop, wrap64, wrapu64, wrapu32, ← Int.natCast_add, ← Int.natCast_mul, cast_succ, wrapu32_nat, shr32, reps_wd, map_set_wd, List.length_set, zs_len, hp, hpl, get_by, map_set_by, by8, e2, e3]
            refine ⟨by (repeat ((with_unfolding_all refine And.intro ?_ ?_); (focus ((with_unfolding_all refine ⟨?_, ?_, ?_⟩); (focus ((intro i hi hj); (simp only [cr, Rec.ids, List.map_cons, List.map_nil, List.mem_cons, List.not_mem_nil, or_false, false_or] at hi hj); (first | done | omega))); (focus first | (refine Or.inl ?_; ((intro i hi hj); (simp only [cr, Rec.ids, List.map_cons, List.map_nil, List.mem_cons, List.not_mem_nil, or_false, false_or] at hi hj); (first | done | omega)); done) | (refine Or.inr ?_; (with_unfolding_all refine ⟨rfl, _, rfl, ?_, ?_⟩) <;> (simp [cr, Dep.ok, loadEff, hp]); done)); (focus first | (refine Or.inl ?_; ((intro i hi hj); (simp only [cr, Rec.ids, List.map_cons, List.map_nil, List.mem_cons, List.not_mem_nil, or_false, false_or] at hi hj); (first | done | omega)); done) | (refine Or.inr ?_; (with_unfolding_all refine ⟨rfl, _, rfl, ?_, ?_⟩) <;> (simp [cr, Dep.ok, loadEff, hp]); done)))))); (with_unfolding_all exact True.intro), ?_⟩
            exact ⟨k - 1, by omega, i + 1, (p.set i (p.getD j 0)).set j (p.getD i 0), garb rfl, rfl, by rw [List.length_set, List.length_set, hpl], by omega, hst⟩
        | true =>
          have hs0 := ng_true.1 hs
          rw [if_pos hs0]
          rw [hs] at q0
          have hm1 : List.map by8 bs ++ [AV.int .u8 45] = List.map by8 (bs ++ [45]) := by rw [List.map_append]; rfl
          have hbl2 : (bs ++ [45]).length = bs.length + 1 := by rw [List.length_append]; rfl
          have hrv : (bs ++ [45]).reverse = [45] ++ bs.reverse := by rw [List.reverse_append]; rfl
          simp (maxSteps := 4000000) (disch := omega) only [go_sem, ↓reduceIte, Nat.reduceAdd, Nat.reduceSub, Nat.reduceMul, Nat.reduceEqDiff, reduceCtorEq, Int.reduceAdd, Int.reduceLT, Int.reduceLE, Int.reduceToNat, Int.reduceNeg, Int.reduceSub, ← List.map_take, ← List.map_drop, wrap64, wrapu64, wrapu32, ← Int.natCast_add, ← Int.natCast_mul, cast_succ, wrapu32_nat, shr32, reps_wd, map_set_wd, List.length_set, zs_len, q0, hd0, hs, hGH, reps, fillAll, appendEff, srcCells, List.headD, hm1]
          refine W_loopS (fun k sl H n3 => ∃ (i : Nat) (p : List Nat), (∃ g : Nat → AV, sl = [g 0, g 1, g 2, .ref (nx + 1) 0 (bs.length + 1), g 4, g 5, g 6, .int .i64 i, g 8, g 9, g 10, g 11, g 12, g 13, g 14, g 15, g 16, g 17, g 18, g 19, g 20, g 21, g 22, g 23, g 24, g 25, g 26, g 27, g 28, g 29, g 30, g 31, g 32, g 33, g 34, g 35, g 36, g 37, g 38, g 39, g 40, g 41, g 42, g 43, g 44, g 45, g 46, g 47, g 48, g 49, g 50, g 51, g 52, g 53, g 54, g 55, g 56, g 57, g 58, g 59, g 60, g 61, g 62, g 63, g 64, g 65, g 66, g 67, g 68, g 69, g 70, g 71, g 72, g 73, g 74, g 75, g 76, g 77, g 78, g 79, g 80]) ∧ H ((nx + 1)) = some ⟨p.map by8, false, 1, false⟩ ∧ p.length = (bs.length + 1) ∧ i + k = (bs.length + 1) / 2 ∧ Hd (Rev (bs ++ [45]) p i)) ((bs.length + 1) / 2)
            ⟨0, (bs ++ [45]), garb rfl, by simp [upd_apply], hbl2, by omega, ⟨rev_zero _⟩⟩ ?_
          clear hGH q0
          rintro k _ H _ ⟨i, p, ⟨g, rfl⟩, hp, hpl, hik, hrev⟩
          have e1 : (((bs.length + 1) : Nat) : Int).tdiv 2 = (((bs.length + 1) / 2 : Nat) : Int) := rfl
          have e2 : (((bs.length + 1) : Nat) : Int) - 1 = (((bs.length + 1) - 1 : Nat) : Int) := by omega
          have hcl : ((bs ++ [45])).length = (bs.length + 1) := hbl2
          by_cases hk0 : k = 0
          · have hfin := rev_done (hpl.trans hcl.symm) hrev.out (by omega)
            subst hfin
            have htk : List.take ((bs.length + 1)) ((bs ++ [45])).reverse = ((bs ++ [45])).reverse := List.take_of_length_le (by omega)
            clear hrev
            simp (maxSteps := 4000000) (disch := omega) only [go_sem, ↓reduceIte, Nat.reduceAdd, Nat.reduceSub, Nat.reduceMul, Nat.reduceEqDiff, reduceCtorEq, Int.reduceAdd, Int.reduceLT, Int.reduceLE, Int.reduceToNat, Int.reduceNeg, Int.reduceSub, ← List.map_take, ← List.map_drop, wrap64, wrapu64, wrapu32, ← Int.natCast_add, ← Int.natCast_mul, cast_succ, wrapu32_nat, shr32, reps_wd, map_set_wd, List.length_set, zs_len, hp, e1, strEff, strOf, srcCells, htk, hpl, bytes_by]
            (rw [hrv]; rfl)
          · obtain ⟨j, hj⟩ : ∃ j, j = (bs.length + 1) - 1 - i := ⟨_, rfl⟩
            have e3 : (((bs.length + 1) - 1 : Nat) : Int) - (i : Int) = (j : Int) := by omega
            have hst := rev_step (hpl.trans hcl.symm) (show j = ((bs ++ [45])).length - 1 - i by omega) (by omega) hrev.out
            replace hst := Hd.mk hst
            clear hrev
            simp (maxSteps := 4000000) (disch := omega) only [go_sem, ↓reduceIte, Nat.reduceAdd, Nat.reduceSub, Nat.reduceMul, Nat.reduceEqDiff, reduceCtorEq, Int.reduceAdd, Int.reduceLT, Int.reduceLE, Int.reduceToNat, Int.reduceNeg, Int.reduceSub, ← List.map_take, ← List.map_drop, wrap64, wrapu64, wrapu32, ← Int.natCast_add, ← Int.natCast_mul, cast_succ, wrapu32_nat, shr32, reps_wd, map_set_wd, List.length_set, zs_len, hp, e1]
            refine W_drawn2 ?_
            simp (maxSteps := 4000000) (disch := omega) only [go_sem, ↓reduceIte, Nat.reduceAdd, Nat.reduceSub, Nat.reduceMul, Nat.reduceEqDiff, reduceCtorEq, Int.reduceAdd, Int.reduceLT, Int.reduceLE, Int.reduceToNat, Int.reduceNeg, Int.reduceSub, ← List.map_take, ← List.map_drop, wrap64, wrapu64, wrapu32, ← Int.natCast_add, ← Int.natCast_mul, cast_succ, wrapu32_nat, shr32, reps_wd, map_set_wd, List.length_set, zs_len, hp, hpl, get_by, map_set_by, by8, e2, e3]
            refine ⟨by (repeat ((with_unfolding_all refine And.intro ?_ ?_); (focus ((with_unfolding_all refine ⟨?_, ?_, ?_⟩); (focus ((intro i hi hj); (simp only [cr, Rec.ids, List.map_cons, List.map_nil, List.mem_cons, List.not_mem_nil, or_false, false_or] at hi hj); (first | done | omega))); (focus first | (refine Or.inl ?_; ((intro i hi hj); (simp only [cr, Rec.ids, List.map_cons, List.map_nil, List.mem_cons, List.not_mem_nil, or_false, false_or] at hi hj); (first | done | omega)); done) | (refine Or.inr ?_; (with_unfolding_all refine ⟨rfl, _, rfl, ?_, ?_⟩) <;> (simp [cr, Dep.ok, loadEff, hp]); done)); (focus first | (refine Or.inl ?_; ((intro i hi hj); (simp only [cr, Rec.ids, List.map_cons, List.map_nil, List.mem_cons, List.not_mem_nil, or_false, false_or] at hi hj); (first | done | omega)); done) | (refine Or.inr ?_; (with_unfolding_all refine ⟨rfl, _, rfl, ?_, ?_⟩) <;> (simp [cr, Dep.ok, loadEff, hp]); done)))))); (with_unfolding_all exact True.intro), ?_⟩
            exact ⟨k - 1, by omega, i + 1, (p.set i (p.getD j 0)).set j (p.getD i 0), garb rfl, rfl, by rw [List.length_set, List.length_set, hpl], by omega, hst⟩
    · have hNl : 0 < (dig N).length := List.length_pos_iff.2 (fun e => hN0 (dig_nil.1 e))
      obtain ⟨o, ho, ro, lo, vo⟩ := rShort_spec f (dig N) 1000000000 (dig_inR N) (by omega) (by decide) (by decide)
      rw [val_dig] at ho vo
      have hmk := rMake_z (neg := false) (nl := false) (w := o) (z := ((N / 1000000000 : Nat) : Int)) ro (by omega) (by rw [vo]; rfl)
      simp only [RM, I, ng_nat, dg_nat] at hmk
      clear vo
      have hr := Nat.mod_lt N (show 0 < 1000000000 by decide)
      have hdm := Nat.div_add_mod N 1000000000
      have hqN : N / 1000000000 < N := Nat.div_lt_self (by omega) (by decide)
      generalize N / 1000000000 = q at *
      generalize N % 1000000000 = r0 at *
      have lq : (dig q).length ≤ 4096 := Nat.le_trans (dig_mono (Nat.le_of_lt hqN)) lN
      have h0d : (0 < (dig q).length) ↔ q ≠ 0 := by rw [List.length_pos_iff, ne_eq, dig_nil]
      simp only [Int.cast_ofNat_Int] at ho
      simp (maxSteps := 4000000) (disch := omega) only [go_sem, ↓reduceIte, Nat.reduceAdd, Nat.reduceSub, Nat.reduceMul, Nat.reduceEqDiff, reduceCtorEq, Int.reduceAdd, Int.reduceLT, Int.reduceLE, Int.reduceToNat, Int.reduceNeg, Int.reduceSub, ← List.map_take, ← List.map_drop, wrap64, wrapu64, wrapu32, ← Int.natCast_add, ← Int.natCast_mul, cast_succ, wrapu32_nat, shr32, reps_wd, map_set_wd, List.length_set, zs_len, ho, hmk, partOf]
      refine W_loopS (fun k sl H2 nx2 => ∃ (v : AV) (pre : List Nat) (i r : Nat), (∃ g : Nat → AV, sl = [g 0, .ptr 0 0, g 2, v, .lst (decide ((q : Int) = 0)) ((dig q).map wd), .int .u32 r, .int .i64 i, g 7, g 8, g 9, g 10, g 11, g 12, g 13, g 14, g 15, g 16, g 17, g 18, g 19, g 20, g 21, g 22, g 23, g 24, g 25, g 26, g 27, g 28, g 29, g 30, g 31, g 32, g 33, g 34, g 35, g 36, g 37, g 38, g 39, g 40, g 41, g 42, g 43, g 44, g 45, g 46, g 47, g 48, g 49, g 50, g 51, g 52, g 53, g 54, g 55, g 56, g 57, g 58, g 59, g 60, g 61, g 62, g 63, g 64, g 65, g 66, g 67, g 68, g 69, g 70, g 71, g 72, g 73, g 74, g 75, g 76, g 77, g 78, g 79, g 80]) ∧ 1 ≤ nx2 ∧
        H2 0 = some ⟨[.bool (ng a), .lst m ((dg a).map wd)], true, 2, false⟩ ∧ Grow H2 nx2 v (pre.map (48 + ·)) ∧ i + k = 9 ∧ r < 1000000000 ∧ Hd (r < 10 ^ (9 - i)) ∧ Hd (pre ++ dd (r + q * 10 ^ (9 - i)) = dd A)) 9
        ⟨v, pre, 0, r0, garb rfl, hnx, q0, hG, by omega, hr, ⟨hr⟩, ⟨by rw [show r0 + q * 10 ^ (9 - 0) = N by rw [← hdm]; show r0 + q * 1000000000 = _; omega]; exact hpre.out⟩⟩ ?_
      clear ho hmk q0 hG hpre hplen lN hnx hdm hN0 hNl hr
      rintro k _ H2 nx2 ⟨v2, pre2, i, r, ⟨g2, rfl⟩, hnx, q0, hG, hik, hr, hr9, hpre⟩
      have hplen : pre2.length ≤ K := by
        have := congrArg List.length hpre.out
        rw [List.length_append] at this; omega
      by_cases hgo : i < 9 ∧ (q ≠ 0 ∨ 0 < r)
      · obtain ⟨hi, hqr⟩ := hgo
        have hM : 0 < r + q * 10 ^ (9 - i) := by
          rcases hqr with h | h
          · have : 0 < q * 10 ^ (9 - i) := Nat.mul_pos (by omega) (Nat.pow_pos (by decide))
            omega
          · omega
        have hMm : (r + q * 10 ^ (9 - i)) % 10 = r % 10 := by rw [pow9 hi, Nat.mul_left_comm]; omega
        have hMd : (r + q * 10 ^ (9 - i)) / 10 = r / 10 + q * 10 ^ (9 - (i + 1)) := by
          rw [pow9 hi, Nat.mul_left_comm, show 9 - (i + 1) = 8 - i by omega]; omega
        have hst := dg_step hM hpre.out
        rw [hMm, hMd] at hst
        have hr9' : r / 10 < 10 ^ (9 - (i + 1)) := by
          have := hr9.out
          rw [pow9 hi] at this
          rw [show 9 - (i + 1) = 8 - i by omega]; omega
        have d1 : (r : Int).tmod 10 = ((r % 10 : Nat) : Int) := rfl
        have d2 : (r : Int).tdiv 10 = ((r / 10 : Nat) : Int) := rfl
        have d3 : r / 10 % 4294967296 = r / 10 := Nat.mod_eq_of_lt (by omega)
        have d4 : IntKind.u8.wrap ((48 : Int) + ((r % 10 : Nat) : Int)) = ((48 + r % 10 : Nat) : Int) := by rw [IntKind.wrap_u8']; omega
        have d5 : IntKind.u32.wrap ((48 : Int) + ((r % 10 : Nat) : Int)) = (48 : Int) + ((r % 10 : Nat) : Int) := by rw [IntKind.wrap_u32']; omega
        obtain ⟨D, hD⟩ : ∃ D, D = 48 + r % 10 := ⟨_, rfl⟩
        rw [← hD] at d4
        have hmap : (pre2 ++ [r % 10]).map (48 + ·) = pre2.map (48 + ·) ++ [D] := by rw [List.map_append, hD]; rfl
        have hpl2 : (pre2.map (48 + ·)).length ≤ K := by rw [List.length_map]; exact hplen
        have hr8 : r / 10 < 1000000000 := by omega
        replace hst := Hd.mk hst
        replace hr9' := Hd.mk hr9'
        clear hpre hr9 hMm hMd hM hD hplen hddl
        have fin : ∀ (bs : List Nat), (pre2 ++ [r % 10]).map (48 + ·) = bs → ∀ (H3 : Heap) (n3 : Nat) (v3 : AV), Grow H3 n3 v3 bs → Grow H3 n3 v3 ((pre2 ++ [r % 10]).map (48 + ·)) := fun bs hb H3 n3 v3 h => by rw [hb]; exact h
        generalize hbs : pre2.map (48 + ·) = bs at *
        have hone : [AV.int .u8 ((D : Nat) : Int)] = List.map by8 [D] := rfl
        have key : ∀ (cnd : (0 < (dig q).length) ∨ ((dig q).length = 0 ∧ 0 < r)), (0 < (dig q).length) ∨ ((dig q).length = 0 ∧ 0 < r) := fun h => h
        have hcnd : (0 < (dig q).length) ∨ ((dig q).length = 0 ∧ 0 < r) := by
          rcases hqr with h | h
          · exact .inl (h0d.2 h)
          · by_cases hq : q = 0
            · exact .inr ⟨by rw [hq, dig_zero]; rfl, h⟩
            · exact .inl (h0d.2 hq)
        clear key hqr h0d
        rcases hG with ⟨hG1, rfl⟩ | ⟨hGl, id, hid0, hid, rfl, hGH⟩
        · subst hG1
          rw [List.nil_append] at hmap
          rcases hcnd with hq1 | ⟨hq1, hq2⟩
          · simp (maxSteps := 4000000) (disch := omega) only [go_sem, ↓reduceIte, Nat.reduceAdd, Nat.reduceSub, Nat.reduceMul, Nat.reduceEqDiff, reduceCtorEq, Int.reduceAdd, Int.reduceLT, Int.reduceLE, Int.reduceToNat, Int.reduceNeg, Int.reduceSub, ← List.map_take, ← List.map_drop, wrap64, wrapu64, wrapu32, ← Int.natCast_add, ← Int.natCast_mul, cast_succ, wrapu32_nat, shr32, reps_wd, map_set_wd, List.length_set, zs_len, hq1, d1, d2, d3, d4, d5, q0, reps, fillAll, appendEff, srcCells, List.headD]
            exact ⟨k - 1, by omega, .ref (nx2 + 1) 0 1, pre2 ++ [r % 10], i + 1, r / 10, garb rfl, by omega, .inr ⟨by rw [hmap]; exact Nat.one_pos, nx2 + 1, by omega, by omega, by rw [hmap]; rfl, by rw [hmap]; exact upd_same⟩, by omega, hr8, hr9', hst⟩
          · simp (maxSteps := 4000000) (disch := omega) only [go_sem, ↓reduceIte, Nat.reduceAdd, Nat.reduceSub, Nat.reduceMul, Nat.reduceEqDiff, reduceCtorEq, Int.reduceAdd, Int.reduceLT, Int.reduceLE, Int.reduceToNat, Int.reduceNeg, Int.reduceSub, ← List.map_take, ← List.map_drop, wrap64, wrapu64, wrapu32, ← Int.natCast_add, ← Int.natCast_mul, cast_succ, wrapu32_nat, shr32, reps_wd, map_set_wd, List.length_set, zs_len, hq1, d1, d2, d3, d4, d5, q0, reps, fillAll, appendEff, srcCells, List.headD]
            exact ⟨k - 1, by omega, .ref (nx2 + 1) 0 1, pre2 ++ [r % 10], i + 1, r / 10, garb rfl, by omega, .inr ⟨by rw [hmap]; exact Nat.one_pos, nx2 + 1, by omega, by omega, by rw [hmap]; rfl, by rw [hmap]; exact upd_same⟩, by omega, hr8, hr9', hst⟩
        · have hm1 : List.map by8 bs ++ [AV.int .u8 ((D : Nat) : Int)] = List.map by8 (bs ++ [D]) := by rw [List.map_append]; rfl
          rcases hcnd with hq1 | ⟨hq1, hq2⟩
          · simp (maxSteps := 4000000) (disch := omega) only [go_sem, ↓reduceIte, Nat.reduceAdd, Nat.reduceSub, Nat.reduceMul, Nat.reduceEqDiff, reduceCtorEq, Int.reduceAdd, Int.reduceLT, Int.reduceLE, Int.reduceToNat, Int.reduceNeg, Int.reduceSub, ← List.map_take, ← List.map_drop, wrap64, wrapu64, wrapu32, ← Int.natCast_add, ← Int.natCast_mul, cast_succ, wrapu32_nat, shr32, reps_wd, map_set_wd, List.length_set, zs_len, hq1, d1, d2, d3, d4, d5, q0, hGH, reps, fillAll, appendEff, srcCells, List.headD, hm1]
            exact ⟨k - 1, by omega, .ref (nx2 + 1) 0 (bs.length + 1), pre2 ++ [r % 10], i + 1, r / 10, garb rfl, by omega, .inr ⟨by rw [hmap, List.length_append]; exact Nat.succ_pos _, nx2 + 1, by omega, by omega, by rw [hmap, List.length_append]; rfl, by rw [hmap]; exact upd_same⟩, by omega, hr8, hr9', hst⟩
          · simp (maxSteps := 4000000) (disch := omega) only [go_sem, ↓reduceIte, Nat.reduceAdd, Nat.reduceSub, Nat.reduceMul, Nat.reduceEqDiff, reduceCtorEq, Int.reduceAdd, Int.reduceLT, Int.reduceLE, Int.reduceToNat, Int.reduceNeg, Int.reduceSub, ← List.map_take, ← List.map_drop, wrap64, wrapu64, wrapu32, ← Int.natCast_add, ← Int.natCast_mul, cast_succ, wrapu32_nat, shr32, reps_wd, map_set_wd, List.length_set, zs_len, hq1, d1, d2, d3, d4, d5, q0, hGH, reps, fillAll, appendEff, srcCells, List.headD, hm1]
            exact ⟨k - 1, by omega, .ref (nx2 + 1) 0 (bs.length + 1), pre2 ++ [r % 10], i + 1, r / 10, garb rfl, by omega, .inr ⟨by rw [hmap, List.length_append]; exact Nat.succ_pos _, nx2 + 1, by omega, by omega, by rw [hmap, List.length_append]; rfl, by rw [hmap]; exact upd_same⟩, by omega, hr8, hr9', hst⟩
      · have hfin : pre2 ++ dd q = dd A := by
          have h := hpre.out
          by_cases hi : i < 9
          · have hq0 : q = 0 ∧ r = 0 := by omega
            rw [hq0.1, hq0.2, Nat.zero_mul, Nat.add_zero] at h
            rw [hq0.1]; exact h
          · obtain rfl : i = 9 := by omega
            have h10 := hr9.out
            rw [show 9 - 9 = 0 from rfl, Nat.pow_zero] at h10
            rw [show 9 - 9 = 0 from rfl, Nat.pow_zero, Nat.mul_one, show r = 0 by omega, Nat.zero_add] at h
            exact h
        replace hfin := Hd.mk hfin
        clear hpre hr9 hddl hplen
        have stop : ¬ i < 9 ∨ (i < 9 ∧ (dig q).length = 0 ∧ r = 0) := by
          by_cases hi : i < 9
          · right
            have hq0 : q = 0 ∧ r = 0 := by omega
            exact ⟨hi, by rw [hq0.1, dig_zero]; rfl, hq0.2⟩
          · exact .inl hi
        rcases stop with hi | ⟨hi, hq1, hr0⟩
        · simp (maxSteps := 4000000) (disch := omega) only [go_sem, ↓reduceIte, Nat.reduceAdd, Nat.reduceSub, Nat.reduceMul, Nat.reduceEqDiff, reduceCtorEq, Int.reduceAdd, Int.reduceLT, Int.reduceLE, Int.reduceToNat, Int.reduceNeg, Int.reduceSub, ← List.map_take, ← List.map_drop, wrap64, wrapu64, wrapu32, ← Int.natCast_add, ← Int.natCast_mul, cast_succ, wrapu32_nat, shr32, reps_wd, map_set_wd, List.length_set, zs_len]
          exact ⟨q, hqN, v2, pre2, _, garb rfl, by omega, q0, hG, by omega, hfin⟩
        · simp (maxSteps := 4000000) (disch := omega) only [go_sem, ↓reduceIte, Nat.reduceAdd, Nat.reduceSub, Nat.reduceMul, Nat.reduceEqDiff, reduceCtorEq, Int.reduceAdd, Int.reduceLT, Int.reduceLE, Int.reduceToNat, Int.reduceNeg, Int.reduceSub, ← List.map_take, ← List.map_drop, wrap64, wrapu64, wrapu32, ← Int.natCast_add, ← Int.natCast_mul, cast_succ, wrapu32_nat, shr32, reps_wd, map_set_wd, List.length_set, zs_len, hq1]
          exact ⟨q, hqN, v2, pre2, _, garb rfl, by omega, q0, hG, by omega, hfin⟩
end Go.Proofs.Ytpfcijgcjghgeaa

/- Walks of the reference of chapter 1: the number of a text. (Own work of this repo.) -/
namespace Go.Proofs.Ytpfcijgcjghgeaa
open Vm
set_option maxRecDepth 100000

theorem mulw_step {p w : List Nat} {i c B part s : Nat} (hp : i < p.length) (hv : vp p i + c * BB ^ i = part + B * vp w i) (hs : s = c + B * w.getD i 0) : vp (p.set i (s % BB)) (i + 1) + s / BB * BB ^ (i + 1) = part + B * vp w (i + 1) := by
  have e1 : vp (p.set i (s % BB)) (i + 1) = vp p i + s % BB * BB ^ i := by
    show vp (p.set i (s % BB)) i + (p.set i (s % BB)).getD i 0 * BB ^ i = _
    rw [vp_set _ _ _ _ (Nat.le_refl _), lget_set_self hp]
  have e2 : vp w (i + 1) = vp w i + w.getD i 0 * BB ^ i := rfl
  have e3 := split_mul s (BB ^ i)
  rw [e1, e2, Nat.pow_succ, Nat.add_assoc, e3, hs, Nat.add_mul, Nat.mul_add, ← Nat.mul_assoc, ← Nat.add_assoc, hv, Nat.add_assoc]
theorem mulw_fin0 {p w : List Nat} {c B part : Nat} (hl : p.length = w.length) (hc : c = 0) (h : vp p w.length + c * BB ^ w.length = part + B * vp w w.length) : val p = part + B * val w := by
  subst hc
  rw [Nat.zero_mul, Nat.add_zero] at h
  rw [val, hl]; exact h
theorem mulw_bound {B x c s : Nat} (hB : B ≤ 1000000000) (hx : x < 4294967296) (hc : c < B) (hs : s = c + B * x) : s < 18446744073709551616 ∧ B * x < 18446744073709551616 ∧ s / 4294967296 < B := by
  have h1 : B * x ≤ 1000000000 * 4294967295 := Nat.mul_le_mul hB (by omega)
  have h2 : B * (x + 1) ≤ B * 4294967296 := Nat.mul_le_mul_left _ (by omega)
  rw [Nat.mul_add, Nat.mul_one] at h2
  refine ⟨by omega, by omega, ?_⟩
  refine Nat.div_lt_of_lt_mul ?_
  rw [Nat.mul_comm]; omega
theorem val_snoc : ∀ (p : List Nat) (c : Nat), val (p ++ [c]) = val p + c * BB ^ p.length
  | [], c => by rw [List.nil_append, val_cons, val_nil]; simp [val_nil]
  | x :: xs, c => by
    rw [List.cons_append, val_cons, val_cons, val_snoc xs c, List.length_cons, Nat.pow_succ, Nat.mul_add, Nat.mul_comm BB (c * _), Nat.mul_assoc, Nat.add_assoc]
theorem inR_snoc {p : List Nat} {c : Nat} (h : InR p) (hc : c < 4294967296) : InR (p ++ [c]) := by
  intro x hx
  rcases List.mem_append.1 hx with hx | hx
  · exact h x hx
  · simp at hx; rw [hx]; exact hc
theorem mulw_fin {p w : List Nat} {c B part : Nat} (hl : p.length = w.length) (h : vp p w.length + c * BB ^ w.length = part + B * vp w w.length) : val (p ++ [c]) = part + B * val w := by
  rw [val_snoc, val, hl]; exact h
def GrowW (H : Heap) (nx : Nat) (v : AV) (l : List Nat) : Prop := (l = [] ∧ v = .lst true []) ∨ (0 < l.length ∧ ∃ id, 0 < id ∧ id < nx ∧ v = .ref id 0 l.length ∧ H id = some ⟨l.map wd, false, 1, false⟩)
theorem thenK_cut2 {E : Env} {A B C : Code} {Q Q' : Ex → St → Prop} {σ : St} (h1 : ∀ e σ, Q e σ → thenK E C Q' e σ) (h2 : W E A σ (thenK E B Q)) : thenK E (A.seq (B.seq C)) Q' .norm σ := by
  rw [thenK_norm, W_seq]
  refine W_mono h2 fun e σ h => ?_
  cases e with
  | norm => rw [thenK_norm] at h ⊢; rw [W_seq]; exact W_mono h h1
  | exit i => exact h1 _ _ h
  | ret => exact h1 _ _ h
  | panic v => exact h1 _ _ h
set_option maxHeartbeats 4000000 in
theorem rParse_spec (l : List Nat) (hI : InB l) (hl : l.length < 2 ^ 40) : denP E 50 [.str (bstr l)] = some (.ret (if pOk l then .tup [RM (pval l), .bool true] else .tup [I true 0, .bool false])) := by
  refine denP_eq E50 rfl (by simp [AV.pureL, AV.pure, pure_wd]) ?_
  have hB := inB_drop hI
  have hu := u8_get hI
  simp (maxSteps := 4000000) (disch := omega) only [go_sem, ↓reduceIte, Nat.reduceAdd, Nat.reduceSub, Nat.reduceMul, Nat.reduceEqDiff, reduceCtorEq, Int.reduceAdd, Int.reduceLT, Int.reduceLE, Int.reduceToNat, Int.reduceNeg, Int.reduceSub, ← List.map_take, ← List.map_drop, wrap64, wrapu64, wrapu32, ← Int.natCast_add, ← Int.natCast_mul, cast_succ, wrapu32_nat, shr32, reps_wd, map_set_wd, List.length_set, zs_len, Try.f50, bstr_size, fillAll, reps, refP, elems, places, ng_zero, dg_zero, List.map_nil]
  refine wantK_mono (Q := fun e σ => e = .norm ∧ (∃ g : Nat → AV, σ.sl = [.str (bstr l), g 1, .ptr 0 0, .bool false, .bool (pneg l), g 5, g 6, g 7, g 8, g 9, g 10, g 11, g 12, g 13, g 14, g 15, g 16, g 17, g 18, g 19, g 20, g 21, g 22, g 23, g 24, g 25, g 26, g 27, g 28, g 29, g 30, g 31, g 32, g 33, g 34, g 35, g 36, g 37, g 38, g 39, g 40, g 41, g 42, g 43, g 44, g 45, g 46, g 47, g 48, g 49, g 50, g 51, g 52, g 53, g 54, g 55, g 56, g 57, g 58, g 59, g 60, g 61, g 62, g 63, g 64, g 65, g 66, g 67, g 68, g 69, g 70, g 71, g 72, g 73, g 74, g 75, g 76, g 77, g 78, g 79, g 80, g 81, g 82, g 83, g 84, g 85, g 86, g 87, g 88, g 89, g 90, g 91, g 92, g 93, g 94, g 95, g 96, g 97, g 98, g 99, g 100, g 101, g 102, g 103, g 104, g 105, g 106, g 107, g 108, g 109, g 110, g 111, g 112, g 113, g 114, g 115]) ∧ σ.nx = 1 ∧ σ.h 0 = some ⟨[.bool false, .lst true []], true, 2, false⟩) ?_ ?_
  · rintro e ⟨sl, H, nx⟩ ⟨rfl, ⟨g, hs⟩, rfl, h0⟩
    dsimp only at hs h0
    subst hs
    refine thenK_cut2 (Q := fun e σ => e = .norm ∧ (∃ g : Nat → AV, σ.sl = [.str (bstr l), g 1, .ptr 0 0, .bool false, .bool (pneg l), .str (bstr (pbody l)), g 6, g 7, g 8, g 9, g 10, g 11, g 12, g 13, g 14, g 15, g 16, g 17, g 18, g 19, g 20, g 21, g 22, g 23, g 24, g 25, g 26, g 27, g 28, g 29, g 30, g 31, g 32, g 33, g 34, g 35, g 36, g 37, g 38, g 39, g 40, g 41, g 42, g 43, g 44, g 45, g 46, g 47, g 48, g 49, g 50, g 51, g 52, g 53, g 54, g 55, g 56, g 57, g 58, g 59, g 60, g 61, g 62, g 63, g 64, g 65, g 66, g 67, g 68, g 69, g 70, g 71, g 72, g 73, g 74, g 75, g 76, g 77, g 78, g 79, g 80, g 81, g 82, g 83, g 84, g 85, g 86, g 87, g 88, g 89, g 90, g 91, g 92, g 93, g 94, g 95, g 96, g 97, g 98, g 99, g 100, g 101, g 102, g 103, g 104, g 105, g 106, g 107, g 108, g 109, g 110, g 111, g 112, g 113, g 114, g 115]) ∧ σ.nx = 1 ∧ σ.h 0 = some ⟨[.bool false, .lst true []], true, 2, false⟩) ?_ ?_
    · rintro e ⟨sl, H2, nx⟩ ⟨rfl, ⟨g2, hs⟩, rfl, h02⟩
      dsimp only at hs h02
      subst hs
      clear h0
      have hok : pOk l = decide (l.length ≤ 60000 ∧ pbody l ≠ [] ∧ ¬ ((pbody l).getD 0 0 = 48 ∧ (pneg l = true ∨ 1 < (pbody l).length)) ∧ DecG (pbody l)) := by unfold pOk; exact decide_eq_decide.2 Iff.rfl
      have hv : pval l = sg (pneg l) (dval (pbody l)) := rfl
      have hdl := pbody_len l
      rw [hok, hv]
      clear hok hv hu
      generalize pneg l = neg at *
      generalize pbody l = d at *
      have hu := u8_get hB
      by_cases hd0 : d = []
      · rw [decide_eq_false (fun h => h.2.1 hd0)]
        subst hd0
        simp (maxSteps := 4000000) (disch := omega) only [go_sem, ↓reduceIte, Nat.reduceAdd, Nat.reduceSub, Nat.reduceMul, Nat.reduceEqDiff, reduceCtorEq, Int.reduceAdd, Int.reduceLT, Int.reduceLE, Int.reduceToNat, Int.reduceNeg, Int.reduceSub, ← List.map_take, ← List.map_drop, wrap64, wrapu64, wrapu32, ← Int.natCast_add, ← Int.natCast_mul, cast_succ, wrapu32_nat, shr32, reps_wd, map_set_wd, List.length_set, zs_len, bstr_size, h02, List.length_nil, fillAll, reps, refP, elems, places, ng_zero, dg_zero, List.map_nil]
      · have hpos : 0 < d.length := List.length_pos_iff.2 hd0
        by_cases hlong : 60000 < l.length
        · rw [decide_eq_false (fun h => absurd h.1 (by omega))]
          simp (maxSteps := 4000000) (disch := omega) only [go_sem, ↓reduceIte, Nat.reduceAdd, Nat.reduceSub, Nat.reduceMul, Nat.reduceEqDiff, reduceCtorEq, Int.reduceAdd, Int.reduceLT, Int.reduceLE, Int.reduceToNat, Int.reduceNeg, Int.reduceSub, ← List.map_take, ← List.map_drop, wrap64, wrapu64, wrapu32, ← Int.natCast_add, ← Int.natCast_mul, cast_succ, wrapu32_nat, shr32, reps_wd, map_set_wd, List.length_set, zs_len, bstr_size, h02, fillAll, reps, refP, elems, places, ng_zero, dg_zero, List.map_nil]
        · have hdl2 : d.length ≤ 60000 := by omega
          by_cases hh : d.getD 0 0 = 48 ∧ (neg = true ∨ 1 < d.length)
          · rw [decide_eq_false (fun h => h.2.2.1 hh)]
            have h48 : ((d.getD 0 0 : Nat) : Int) = 48 := by rw [hh.1]; rfl
            have hh2 := hh.2
            clear hh
            cases neg with
            | true => simp (maxSteps := 4000000) (disch := omega) only [go_sem, ↓reduceIte, Nat.reduceAdd, Nat.reduceSub, Nat.reduceMul, Nat.reduceEqDiff, reduceCtorEq, Int.reduceAdd, Int.reduceLT, Int.reduceLE, Int.reduceToNat, Int.reduceNeg, Int.reduceSub, ← List.map_take, ← List.map_drop, wrap64, wrapu64, wrapu32, ← Int.natCast_add, ← Int.natCast_mul, cast_succ, wrapu32_nat, shr32, reps_wd, map_set_wd, List.length_set, zs_len, bstr_size, bstr_get, hu, h48, h02, fillAll, reps, refP, elems, places, ng_zero, dg_zero, List.map_nil]
            | false =>
              have h1d : 1 < d.length := by
                rcases hh2 with h | h
                · cases h
                · exact h
              simp (maxSteps := 4000000) (disch := omega) only [go_sem, ↓reduceIte, Nat.reduceAdd, Nat.reduceSub, Nat.reduceMul, Nat.reduceEqDiff, reduceCtorEq, Int.reduceAdd, Int.reduceLT, Int.reduceLE, Int.reduceToNat, Int.reduceNeg, Int.reduceSub, ← List.map_take, ← List.map_drop, wrap64, wrapu64, wrapu32, ← Int.natCast_add, ← Int.natCast_mul, cast_succ, wrapu32_nat, shr32, reps_wd, map_set_wd, List.length_set, zs_len, bstr_size, bstr_get, hu, h48, h02, fillAll, reps, refP, elems, places, ng_zero, dg_zero, List.map_nil]
          · have hgo : (¬ ((d.getD 0 0 : Nat) : Int) = 48) ∨ (((d.getD 0 0 : Nat) : Int) = 48 ∧ neg = false ∧ d.length = 1) := by
              by_cases h48 : d.getD 0 0 = 48
              · right
                have h9 : ¬ (neg = true ∨ 1 < d.length) := fun h => hh ⟨h48, h⟩
                have hn9 : neg = false := by cases neg with
                  | true => exact absurd (.inl rfl) h9
                  | false => rfl
                have hl9 : d.length = 1 := by
                  by_cases h : 1 < d.length
                  · exact absurd (.inr h) h9
                  · omega
                exact ⟨by omega, hn9, hl9⟩
              · exact .inl (by omega)
            have hok : ∀ b : Bool, (DecG d ↔ b = true) → decide (l.length ≤ 60000 ∧ d ≠ [] ∧ ¬ (d.getD 0 0 = 48 ∧ (neg = true ∨ 1 < d.length)) ∧ DecG d) = b := by
              intro b hb
              cases b with
              | true => exact decide_eq_true ⟨by omega, hd0, hh, hb.2 rfl⟩
              | false => exact decide_eq_false fun h => by have := hb.1 h.2.2.2; cases this
            generalize decide (l.length ≤ 60000 ∧ d ≠ [] ∧ ¬ (d.getD 0 0 = 48 ∧ (neg = true ∨ 1 < d.length)) ∧ DecG d) = ok at *
            replace hok := Hd.mk hok
            clear hh
            refine thenK_cut (Q := fun e σ => e = .norm ∧ (∃ g : Nat → AV, σ.sl = [.str (bstr l), g 1, .ptr 0 0, .bool false, .bool neg, .str (bstr d), g 6, g 7, g 8, g 9, g 10, g 11, g 12, g 13, g 14, g 15, g 16, g 17, g 18, g 19, g 20, g 21, g 22, g 23, g 24, g 25, g 26, g 27, g 28, g 29, g 30, g 31, g 32, g 33, g 34, g 35, g 36, g 37, g 38, g 39, g 40, g 41, g 42, g 43, g 44, g 45, g 46, g 47, g 48, g 49, g 50, g 51, g 52, g 53, g 54, g 55, g 56, g 57, g 58, g 59, g 60, g 61, g 62, g 63, g 64, g 65, g 66, g 67, g 68, g 69, g 70, g 71, g 72, g 73, g 74, g 75, g 76, g 77, g 78, g 79, g 80, g 81, g 82, g 83, g 84, g 85, g 86, g 87, g 88, g 89, g 90, g 91, g 92, g 93, g 94, g 95, g 96, g 97, g 98, g 99, g 100, g 101, g 102, g 103, g 104, g 105, g 106, g 107, g 108, g 109, g 110, g 111, g 112, g 113, g 114, g 115]) ∧ σ.nx = 1 ∧ σ.h 0 = some ⟨[.bool false, .lst true []], true, 2, false⟩) ?_ ?_
            · rintro e ⟨sl, H2, nx⟩ ⟨rfl, ⟨g2, hs⟩, rfl, h02⟩
              dsimp only at hs h02
              subst hs
              clear hgo
              simp (maxSteps := 4000000) (disch := omega) only [go_sem, ↓reduceIte, Nat.reduceAdd, Nat.reduceSub, Nat.reduceMul, Nat.reduceEqDiff, reduceCtorEq, Int.reduceAdd, Int.reduceLT, Int.reduceLE, Int.reduceToNat, Int.reduceNeg, Int.reduceSub, ← List.map_take, ← List.map_drop, wrap64, wrapu64, wrapu32, ← Int.natCast_add, ← Int.natCast_mul, cast_succ, wrapu32_nat, shr32, reps_wd, map_set_wd, List.length_set, zs_len]
              refine W_loopS (fun k sl H nx => ∃ (i : Nat) (v : AV) (w : List Nat), (∃ g : Nat → AV, sl = [.str (bstr l), g 1, .ptr 0 0, .bool false, .bool neg, .str (bstr d), v, .int .i64 i, g 8, g 9, g 10, g 11, g 12, g 13, g 14, g 15, g 16, g 17, g 18, g 19, g 20, g 21, g 22, g 23, g 24, g 25, g 26, g 27, g 28, g 29, g 30, g 31, g 32, g 33, g 34, g 35, g 36, g 37, g 38, g 39, g 40, g 41, g 42, g 43, g 44, g 45, g 46, g 47, g 48, g 49, g 50, g 51, g 52, g 53, g 54, g 55, g 56, g 57, g 58, g 59, g 60, g 61, g 62, g 63, g 64, g 65, g 66, g 67, g 68, g 69, g 70, g 71, g 72, g 73, g 74, g 75, g 76, g 77, g 78, g 79, g 80, g 81, g 82, g 83, g 84, g 85, g 86, g 87, g 88, g 89, g 90, g 91, g 92, g 93, g 94, g 95, g 96, g 97, g 98, g 99, g 100, g 101, g 102, g 103, g 104, g 105, g 106, g 107, g 108, g 109, g 110, g 111, g 112, g 113, g 114, g 115]) ∧ 1 ≤ nx ∧
                H 0 = some ⟨[.bool false, .lst true []], true, 2, false⟩ ∧ GrowW H nx v w ∧ InR w ∧ w.length ≤ i ∧ i + k = d.length ∧ Hd (∀ t, t < i → 48 ≤ d.getD t 0 ∧ d.getD t 0 ≤ 57) ∧ Hd (val w = dval (d.take i))) d.length
                ⟨0, .lst true [], [], by refine garb ?_; rfl, Nat.le_refl 1, h02, .inl ⟨rfl, rfl⟩, (fun _ h => by cases h), Nat.le_refl _, by omega, ⟨fun t ht => absurd ht (Nat.not_lt_zero _)⟩, ⟨by rw [List.take_zero, dval_nil, val_nil]⟩⟩ ?_
              clear h02
              rintro k _ H nx ⟨i, v, w, ⟨g, rfl⟩, hnx, h0, hG, hw, hwl, hik, hgd, hN⟩
              by_cases hi : i < d.length
              · simp (maxSteps := 4000000) (disch := omega) only [go_sem, ↓reduceIte, Nat.reduceAdd, Nat.reduceSub, Nat.reduceMul, Nat.reduceEqDiff, reduceCtorEq, Int.reduceAdd, Int.reduceLT, Int.reduceLE, Int.reduceToNat, Int.reduceNeg, Int.reduceSub, ← List.map_take, ← List.map_drop, wrap64, wrapu64, wrapu32, ← Int.natCast_add, ← Int.natCast_mul, cast_succ, wrapu32_nat, shr32, reps_wd, map_set_wd, List.length_set, zs_len, bstr_size]
                refine W_loopS (fun k sl H nx => ∃ (i2 j part B : Nat), (∃ g : Nat → AV, sl = [.str (bstr l), g 1, .ptr 0 0, .bool false, .bool neg, .str (bstr d), v, .int .i64 i2, .int .u64 B, .int .u64 part, .int .i64 j, g 11, g 12, g 13, g 14, g 15, g 16, g 17, g 18, g 19, g 20, g 21, g 22, g 23, g 24, g 25, g 26, g 27, g 28, g 29, g 30, g 31, g 32, g 33, g 34, g 35, g 36, g 37, g 38, g 39, g 40, g 41, g 42, g 43, g 44, g 45, g 46, g 47, g 48, g 49, g 50, g 51, g 52, g 53, g 54, g 55, g 56, g 57, g 58, g 59, g 60, g 61, g 62, g 63, g 64, g 65, g 66, g 67, g 68, g 69, g 70, g 71, g 72, g 73, g 74, g 75, g 76, g 77, g 78, g 79, g 80, g 81, g 82, g 83, g 84, g 85, g 86, g 87, g 88, g 89, g 90, g 91, g 92, g 93, g 94, g 95, g 96, g 97, g 98, g 99, g 100, g 101, g 102, g 103, g 104, g 105, g 106, g 107, g 108, g 109, g 110, g 111, g 112, g 113, g 114, g 115]) ∧ 1 ≤ nx ∧
                  H 0 = some ⟨[.bool false, .lst true []], true, 2, false⟩ ∧ GrowW H nx v w ∧ i2 + k = d.length ∧ i2 = i + j ∧ j ≤ 9 ∧ (j < 9 → B ≤ 100000000) ∧ (j = 9 → B = 1000000000) ∧ part < B ∧ Hd (B = 10 ^ j) ∧ Hd (∀ t, t < i2 → 48 ≤ d.getD t 0 ∧ d.getD t 0 ≤ 57) ∧ Hd (part + B * val w = dval (d.take i2))) (d.length - i)
                  ⟨i, 0, 0, 1, by refine garb ?_; rfl, hnx, h0, hG, by omega, by omega, by omega, fun _ => by omega, fun h => by omega, by omega, ⟨rfl⟩, hgd, ⟨by rw [Nat.one_mul, Nat.zero_add]; exact hN.out⟩⟩ ?_
                clear h0 hgd hN hnx hG
                rintro k2 _ H nx ⟨i2, j, part, B, ⟨g, rfl⟩, hnx, h0, hG, hik2, hij, hj9, hB1, hB2, hpart, hBj, hgd, hN⟩
                by_cases hgo : i2 < d.length ∧ j < 9
                · obtain ⟨hi2, hj⟩ := hgo
                  have hB1 := hB1 hj
                  have hx := inB_get hB i2
                  obtain ⟨x, hxx⟩ : ∃ x, x = d.getD i2 0 := ⟨_, rfl⟩
                  have hux : ((UInt8.ofNat x).toNat : Int) = (x : Int) := by rw [hxx, u8_nat hx]
                  by_cases hc : 48 ≤ d.getD i2 0 ∧ d.getD i2 0 ≤ 57
                  · obtain ⟨hc1, hc2⟩ := hc
                    obtain ⟨y, hy⟩ : ∃ y, y = x - 48 := ⟨_, rfl⟩
                    obtain ⟨P, hP⟩ : ∃ P, P = 10 * part + y := ⟨_, rfl⟩
                    obtain ⟨B2, hB2'⟩ : ∃ B2, B2 = 10 * B := ⟨_, rfl⟩
                    have hgd2 : ∀ t, t < i2 + 1 → 48 ≤ d.getD t 0 ∧ d.getD t 0 ≤ 57 := fun t ht => by
                      by_cases h : t = i2
                      · subst h; exact ⟨hc1, hc2⟩
                      · exact hgd.out t (by omega)
                    have hBj2 : B2 = 10 ^ (j + 1) := by rw [hB2', hBj.out, Nat.pow_succ, Nat.mul_comm]
                    have hN2 : P + B2 * val w = dval (d.take (i2 + 1)) := by
                      rw [dval_take hi2, ← hN.out, ← hxx, ← hy, hP, hB2', Nat.mul_add, Nat.mul_assoc]; omega
                    obtain ⟨m1, m2⟩ := pow10 hBj2
                    have hP2 : P < B2 := by omega
                    replace hgd2 := Hd.mk hgd2
                    replace hBj2 := Hd.mk hBj2
                    replace hN2 := Hd.mk hN2
                    have e1 : IntKind.u8.wrap ((x : Int) - 48) = (y : Int) := by rw [IntKind.wrap_u8']; omega
                    have e3 : (10 : Int) * (part : Int) + (y : Int) = (P : Int) := by omega
                    have e4 : (10 : Int) * (B : Int) = (B2 : Int) := by omega
                    have e5 : IntKind.u64.wrap ((10 : Int) * (part : Int)) = (10 : Int) * (part : Int) := by rw [IntKind.wrap_u64]; omega
                    have hys : y < 18446744073709551616 := by omega
                    have hPs : P < 18446744073709551616 := by omega
                    have hBs : B2 < 18446744073709551616 := by omega
                    rw [← hxx] at hc1 hc2
                    clear hok hgd hN hBj hB2 hy hP hB2' hw
                    simp (maxSteps := 4000000) (disch := omega) only [go_sem, ↓reduceIte, Nat.reduceAdd, Nat.reduceSub, Nat.reduceMul, Nat.reduceEqDiff, reduceCtorEq, Int.reduceAdd, Int.reduceLT, Int.reduceLE, Int.reduceToNat, Int.reduceNeg, Int.reduceSub, ← List.map_take, ← List.map_drop, wrap64, wrapu64, wrapu32, ← Int.natCast_add, ← Int.natCast_mul, cast_succ, wrapu32_nat, shr32, reps_wd, map_set_wd, List.length_set, zs_len, bstr_size, bstr_get, ← hxx, hux]
                    refine W_drawn ?_
                    simp (maxSteps := 4000000) (disch := omega) only [go_sem, ↓reduceIte, Nat.reduceAdd, Nat.reduceSub, Nat.reduceMul, Nat.reduceEqDiff, reduceCtorEq, Int.reduceAdd, Int.reduceLT, Int.reduceLE, Int.reduceToNat, Int.reduceNeg, Int.reduceSub, ← List.map_take, ← List.map_drop, wrap64, wrapu64, wrapu32, ← Int.natCast_add, ← Int.natCast_mul, cast_succ, wrapu32_nat, shr32, reps_wd, map_set_wd, List.length_set, zs_len, bstr_size, bstr_get, ← hxx, hux, e1, e5, e3, e4]
                    refine ⟨by rfl, ?_⟩
                    exact ⟨k2 - 1, by omega, i2 + 1, j + 1, P, B2, by refine garb ?_; rfl, hnx, h0, hG, by omega, by omega, by omega, m1, m2, hP2, hBj2, hgd2, hN2⟩
                  · have hbad : ok = false := hok.out false ⟨fun h => absurd (good_get h hi2) hc, fun h => by cases h⟩
                    rw [hbad]
                    rw [← hxx] at hc hx
                    clear hok hgd hN hBj hB2 hbad hw hG
                    by_cases hlow : x < 48
                    · simp (maxSteps := 4000000) (disch := omega) only [go_sem, ↓reduceIte, Nat.reduceAdd, Nat.reduceSub, Nat.reduceMul, Nat.reduceEqDiff, reduceCtorEq, Int.reduceAdd, Int.reduceLT, Int.reduceLE, Int.reduceToNat, Int.reduceNeg, Int.reduceSub, ← List.map_take, ← List.map_drop, wrap64, wrapu64, wrapu32, ← Int.natCast_add, ← Int.natCast_mul, cast_succ, wrapu32_nat, shr32, reps_wd, map_set_wd, List.length_set, zs_len, bstr_size, bstr_get, ← hxx, hux, h0, fillAll, reps, refP, elems, places, ng_zero, dg_zero, List.map_nil]
                    · simp (maxSteps := 4000000) (disch := omega) only [go_sem, ↓reduceIte, Nat.reduceAdd, Nat.reduceSub, Nat.reduceMul, Nat.reduceEqDiff, reduceCtorEq, Int.reduceAdd, Int.reduceLT, Int.reduceLE, Int.reduceToNat, Int.reduceNeg, Int.reduceSub, ← List.map_take, ← List.map_drop, wrap64, wrapu64, wrapu32, ← Int.natCast_add, ← Int.natCast_mul, cast_succ, wrapu32_nat, shr32, reps_wd, map_set_wd, List.length_set, zs_len, bstr_size, bstr_get, ← hxx, hux, h0, fillAll, reps, refP, elems, places, ng_zero, dg_zero, List.map_nil]
                · have hstop : (j < 9 ∧ d.length ≤ i2) ∨ j = 9 := by omega
                  have hji : i < i2 := by omega
                  have hi2l : i2 ≤ d.length := by omega
                  have hBs : B ≤ 1000000000 := by
                    by_cases h : j < 9
                    · have := hB1 h; omega
                    · have := hB2 (by omega); omega
                  clear hok hBj hB1 hB2 hgo
                  have step : ∀ (w2 : List Nat), val w2 = part + B * val w → Hd (val w2 = dval (d.take i2)) := fun w2 h => ⟨by rw [h]; exact hN.out⟩
                  replace step := Hd.mk step
                  clear hN
                  rcases hG with ⟨rfl, rfl⟩ | ⟨hwp, id, hid0, hid, rfl, hG⟩
                  · have hps : part < 4294967296 := by omega
                    have hfin : ∀ (w2 : List Nat), val w2 = part → Hd (val w2 = dval (d.take i2)) := fun w2 h => step.out w2 (by rw [h, val_nil, Nat.mul_zero, Nat.add_zero])
                    have f1 : part = 0 → Hd (val [] = dval (d.take i2)) := fun h => hfin [] (by rw [h]; rfl)
                    have f2 : Hd (val [part] = dval (d.take i2)) := hfin [part] (val_sing part)
                    have f3 : InR [part] := by intro x hx; simp at hx; rw [hx]; exact hps
                    clear hfin step hw
                    rcases hstop with ⟨hs1, hs2⟩ | hs1
                    · simp (maxSteps := 4000000) (disch := omega) only [go_sem, ↓reduceIte, Nat.reduceAdd, Nat.reduceSub, Nat.reduceMul, Nat.reduceEqDiff, reduceCtorEq, Int.reduceAdd, Int.reduceLT, Int.reduceLE, Int.reduceToNat, Int.reduceNeg, Int.reduceSub, ← List.map_take, ← List.map_drop, wrap64, wrapu64, wrapu32, ← Int.natCast_add, ← Int.natCast_mul, cast_succ, wrapu32_nat, shr32, reps_wd, map_set_wd, List.length_set, zs_len, bstr_size]
                      rw [W_unroll]
                      by_cases hp0 : part = 0
                      · have f1 := f1 hp0
                        simp (maxSteps := 4000000) (disch := omega) only [go_sem, ↓reduceIte, Nat.reduceAdd, Nat.reduceSub, Nat.reduceMul, Nat.reduceEqDiff, reduceCtorEq, Int.reduceAdd, Int.reduceLT, Int.reduceLE, Int.reduceToNat, Int.reduceNeg, Int.reduceSub, ← List.map_take, ← List.map_drop, wrap64, wrapu64, wrapu32, ← Int.natCast_add, ← Int.natCast_mul, cast_succ, wrapu32_nat, shr32, reps_wd, map_set_wd, List.length_set, zs_len, bstr_size, List.map_nil]
                        exact ⟨k - (i2 - i), by omega, i2, .lst true [], [], by refine garb ?_; rfl, hnx, h0, .inl ⟨rfl, rfl⟩, (fun _ h => by cases h), Nat.zero_le _, by omega, hgd, f1⟩
                      · simp (maxSteps := 4000000) (disch := omega) only [go_sem, ↓reduceIte, Nat.reduceAdd, Nat.reduceSub, Nat.reduceMul, Nat.reduceEqDiff, reduceCtorEq, Int.reduceAdd, Int.reduceLT, Int.reduceLE, Int.reduceToNat, Int.reduceNeg, Int.reduceSub, ← List.map_take, ← List.map_drop, wrap64, wrapu64, wrapu32, ← Int.natCast_add, ← Int.natCast_mul, cast_succ, wrapu32_nat, shr32, reps_wd, map_set_wd, List.length_set, zs_len, bstr_size, List.map_nil, h0, reps, fillAll, appendEff, srcCells, List.headD, flat]
                        exact ⟨k - (i2 - i), by omega, i2, .ref (nx + 1) 0 1, [part], by refine garb ?_; rfl, by omega, .inr ⟨Nat.one_pos, nx + 1, by omega, by omega, rfl, upd_same⟩, f3, by simp; omega, by omega, hgd, f2⟩
                    · simp (maxSteps := 4000000) (disch := omega) only [go_sem, ↓reduceIte, Nat.reduceAdd, Nat.reduceSub, Nat.reduceMul, Nat.reduceEqDiff, reduceCtorEq, Int.reduceAdd, Int.reduceLT, Int.reduceLE, Int.reduceToNat, Int.reduceNeg, Int.reduceSub, ← List.map_take, ← List.map_drop, wrap64, wrapu64, wrapu32, ← Int.natCast_add, ← Int.natCast_mul, cast_succ, wrapu32_nat, shr32, reps_wd, map_set_wd, List.length_set, zs_len, bstr_size]
                      rw [W_unroll]
                      by_cases hp0 : part = 0
                      · have f1 := f1 hp0
                        simp (maxSteps := 4000000) (disch := omega) only [go_sem, ↓reduceIte, Nat.reduceAdd, Nat.reduceSub, Nat.reduceMul, Nat.reduceEqDiff, reduceCtorEq, Int.reduceAdd, Int.reduceLT, Int.reduceLE, Int.reduceToNat, Int.reduceNeg, Int.reduceSub, ← List.map_take, ← List.map_drop, wrap64, wrapu64, wrapu32, ← Int.natCast_add, ← Int.natCast_mul, cast_succ, wrapu32_nat, shr32, reps_wd, map_set_wd, List.length_set, zs_len, bstr_size, List.map_nil]
                        exact ⟨k - (i2 - i), by omega, i2, .lst true [], [], by refine garb ?_; rfl, hnx, h0, .inl ⟨rfl, rfl⟩, (fun _ h => by cases h), Nat.zero_le _, by omega, hgd, f1⟩
                      · simp (maxSteps := 4000000) (disch := omega) only [go_sem, ↓reduceIte, Nat.reduceAdd, Nat.reduceSub, Nat.reduceMul, Nat.reduceEqDiff, reduceCtorEq, Int.reduceAdd, Int.reduceLT, Int.reduceLE, Int.reduceToNat, Int.reduceNeg, Int.reduceSub, ← List.map_take, ← List.map_drop, wrap64, wrapu64, wrapu32, ← Int.natCast_add, ← Int.natCast_mul, cast_succ, wrapu32_nat, shr32, reps_wd, map_set_wd, List.length_set, zs_len, bstr_size, List.map_nil, h0, reps, fillAll, appendEff, srcCells, List.headD, flat]
                        exact ⟨k - (i2 - i), by omega, i2, .ref (nx + 1) 0 1, [part], by refine garb ?_; rfl, by omega, .inr ⟨Nat.one_pos, nx + 1, by omega, by omega, rfl, upd_same⟩, f3, by simp; omega, by omega, hgd, f2⟩
                  · clear hu
                    rcases hstop with ⟨hs1, hs2⟩ | hs1
                    · simp (maxSteps := 4000000) (disch := omega) only [go_sem, ↓reduceIte, Nat.reduceAdd, Nat.reduceSub, Nat.reduceMul, Nat.reduceEqDiff, reduceCtorEq, Int.reduceAdd, Int.reduceLT, Int.reduceLE, Int.reduceToNat, Int.reduceNeg, Int.reduceSub, ← List.map_take, ← List.map_drop, wrap64, wrapu64, wrapu32, ← Int.natCast_add, ← Int.natCast_mul, cast_succ, wrapu32_nat, shr32, reps_wd, map_set_wd, List.length_set, zs_len, bstr_size]
                      refine W_loopS (fun k3 sl H nx => ∃ (i3 c : Nat) (p : List Nat), (∃ g : Nat → AV, sl = [.str (bstr l), g 1, .ptr 0 0, .bool false, .bool neg, .str (bstr d), .ref id 0 w.length, .int .i64 i2, .int .u64 B, .int .u64 c, g 10, .int .i64 i3, g 12, g 13, g 14, g 15, g 16, g 17, g 18, g 19, g 20, g 21, g 22, g 23, g 24, g 25, g 26, g 27, g 28, g 29, g 30, g 31, g 32, g 33, g 34, g 35, g 36, g 37, g 38, g 39, g 40, g 41, g 42, g 43, g 44, g 45, g 46, g 47, g 48, g 49, g 50, g 51, g 52, g 53, g 54, g 55, g 56, g 57, g 58, g 59, g 60, g 61, g 62, g 63, g 64, g 65, g 66, g 67, g 68, g 69, g 70, g 71, g 72, g 73, g 74, g 75, g 76, g 77, g 78, g 79, g 80, g 81, g 82, g 83, g 84, g 85, g 86, g 87, g 88, g 89, g 90, g 91, g 92, g 93, g 94, g 95, g 96, g 97, g 98, g 99, g 100, g 101, g 102, g 103, g 104, g 105, g 106, g 107, g 108, g 109, g 110, g 111, g 112, g 113, g 114, g 115]) ∧ id < nx ∧ H 0 = some ⟨[.bool false, .lst true []], true, 2, false⟩ ∧
                        H id = some ⟨p.map wd, false, 1, false⟩ ∧ p.length = w.length ∧ InR p ∧ c < B ∧ i3 + k3 = w.length ∧ Hd (vp p i3 + c * BB ^ i3 = part + B * vp w i3) ∧ Hd (∀ t, i3 ≤ t → p.getD t 0 = w.getD t 0)) w.length
                        ⟨0, part, w, by refine garb ?_; rfl, hid, h0, hG, rfl, hw, hpart, by omega, ⟨by show 0 + part * 1 = part + B * 0; omega⟩, ⟨fun _ _ => rfl⟩⟩ ?_
                      clear h0 hG
                      rintro k3 _ H nx ⟨i3, c, p, ⟨g, rfl⟩, hid, h0, hG, hpl, hpr, hcB, hik3, hvp, htl⟩
                      by_cases hi3 : i3 < w.length
                      · obtain ⟨x, hxx⟩ : ∃ x, x = p.getD i3 0 := ⟨_, rfl⟩
                        have hx4 : x < 4294967296 := by rw [hxx]; exact hpr.get i3
                        obtain ⟨s, hs⟩ : ∃ s, s = c + B * x := ⟨_, rfl⟩
                        obtain ⟨b1, b2, b3⟩ := mulw_bound hBs hx4 hcB hs
                        have hv2 := mulw_step (p := p) (w := w) (i := i3) (c := c) (B := B) (part := part) (s := s) (by omega) hvp.out (by rw [hs, hxx, htl.out i3 (Nat.le_refl _)])
                        have ht2 : ∀ t, i3 + 1 ≤ t → (p.set i3 (s % BB)).getD t 0 = w.getD t 0 := fun t ht => by rw [lget_set_ne (by omega)]; exact htl.out t (by omega)
                        replace hv2 := Hd.mk hv2
                        replace ht2 := Hd.mk ht2
                        have hr2 : InR (p.set i3 (s % BB)) := hpr.set (Nat.mod_lt _ (by decide))
                        clear hvp htl step hgd hpr
                        simp (maxSteps := 4000000) (disch := omega) only [go_sem, ↓reduceIte, Nat.reduceAdd, Nat.reduceSub, Nat.reduceMul, Nat.reduceEqDiff, reduceCtorEq, Int.reduceAdd, Int.reduceLT, Int.reduceLE, Int.reduceToNat, Int.reduceNeg, Int.reduceSub, ← List.map_take, ← List.map_drop, wrap64, wrapu64, wrapu32, ← Int.natCast_add, ← Int.natCast_mul, cast_succ, wrapu32_nat, shr32, reps_wd, map_set_wd, List.length_set, zs_len, hG, h0, hpl, ← hxx, and_low, ← hs, Nat.mod_mod]
                        exact ⟨k3 - 1, by omega, i3 + 1, s / 4294967296, p.set i3 (s % BB), by refine garb ?_; rfl, hid, rfl, by rw [List.length_set, hpl], hr2, b3, by omega, hv2, ht2⟩
                      · obtain rfl : i3 = w.length := by omega
                        by_cases hc0 : c = 0
                        · have f1 := step.out p (mulw_fin0 hpl hc0 hvp.out)
                          clear hvp htl step
                          simp (maxSteps := 4000000) (disch := omega) only [go_sem, ↓reduceIte, Nat.reduceAdd, Nat.reduceSub, Nat.reduceMul, Nat.reduceEqDiff, reduceCtorEq, Int.reduceAdd, Int.reduceLT, Int.reduceLE, Int.reduceToNat, Int.reduceNeg, Int.reduceSub, ← List.map_take, ← List.map_drop, wrap64, wrapu64, wrapu32, ← Int.natCast_add, ← Int.natCast_mul, cast_succ, wrapu32_nat, shr32, reps_wd, map_set_wd, List.length_set, zs_len, hG, h0]
                          exact ⟨k - (i2 - i), by omega, i2, .ref id 0 w.length, p, by refine garb ?_; rfl, by omega, .inr ⟨by omega, id, hid0, hid, by rw [hpl], hG⟩, hpr, by omega, by omega, hgd, f1⟩
                        · have f1 := step.out (p ++ [c]) (mulw_fin hpl hvp.out)
                          have hcs : c < 4294967296 := by omega
                          have f2 := inR_snoc hpr hcs
                          have f3 : c % 4294967296 = c := Nat.mod_eq_of_lt hcs
                          have f4 : (p ++ [c]).length = w.length + 1 := by rw [List.length_append, hpl]; rfl
                          have hm1 : List.map wd p ++ [AV.int .u32 (c : Int)] = List.map wd (p ++ [c]) := by rw [List.map_append]; rfl
                          clear hvp htl step
                          simp (maxSteps := 4000000) (disch := omega) only [go_sem, ↓reduceIte, Nat.reduceAdd, Nat.reduceSub, Nat.reduceMul, Nat.reduceEqDiff, reduceCtorEq, Int.reduceAdd, Int.reduceLT, Int.reduceLE, Int.reduceToNat, Int.reduceNeg, Int.reduceSub, ← List.map_take, ← List.map_drop, wrap64, wrapu64, wrapu32, ← Int.natCast_add, ← Int.natCast_mul, cast_succ, wrapu32_nat, shr32, reps_wd, map_set_wd, List.length_set, zs_len, hG, h0, hpl, f3, reps, fillAll, appendEff, srcCells, List.headD, hm1]
                          exact ⟨k - (i2 - i), by omega, i2, .ref (nx + 1) 0 (w.length + 1), p ++ [c], by refine garb ?_; rfl, by omega, .inr ⟨by omega, nx + 1, by omega, by omega, by rw [f4], upd_same⟩, f2, by omega, by omega, hgd, f1⟩
                    · simp (maxSteps := 4000000) (disch := omega) only [go_sem, ↓reduceIte, Nat.reduceAdd, Nat.reduceSub, Nat.reduceMul, Nat.reduceEqDiff, reduceCtorEq, Int.reduceAdd, Int.reduceLT, Int.reduceLE, Int.reduceToNat, Int.reduceNeg, Int.reduceSub, ← List.map_take, ← List.map_drop, wrap64, wrapu64, wrapu32, ← Int.natCast_add, ← Int.natCast_mul, cast_succ, wrapu32_nat, shr32, reps_wd, map_set_wd, List.length_set, zs_len, bstr_size]
                      refine W_loopS (fun k3 sl H nx => ∃ (i3 c : Nat) (p : List Nat), (∃ g : Nat → AV, sl = [.str (bstr l), g 1, .ptr 0 0, .bool false, .bool neg, .str (bstr d), .ref id 0 w.length, .int .i64 i2, .int .u64 B, .int .u64 c, g 10, .int .i64 i3, g 12, g 13, g 14, g 15, g 16, g 17, g 18, g 19, g 20, g 21, g 22, g 23, g 24, g 25, g 26, g 27, g 28, g 29, g 30, g 31, g 32, g 33, g 34, g 35, g 36, g 37, g 38, g 39, g 40, g 41, g 42, g 43, g 44, g 45, g 46, g 47, g 48, g 49, g 50, g 51, g 52, g 53, g 54, g 55, g 56, g 57, g 58, g 59, g 60, g 61, g 62, g 63, g 64, g 65, g 66, g 67, g 68, g 69, g 70, g 71, g 72, g 73, g 74, g 75, g 76, g 77, g 78, g 79, g 80, g 81, g 82, g 83, g 84, g 85, g 86, g 87, g 88, g 89, g 90, g 91, g 92, g 93, g 94, g 95, g 96, g 97, g 98, g 99, g 100, g 101, g 102, g 103, g 104, g 105, g 106, g 107, g 108, g 109, g 110, g 111, g 112, g 113, g 114, g 115]) ∧ id < nx ∧ H 0 = some ⟨[.bool false, .lst true []], true, 2, false⟩ ∧
                        H id = some ⟨p.map wd, false, 1, false⟩ ∧ p.length = w.length ∧ InR p ∧ c < B ∧ i3 + k3 = w.length ∧ Hd (vp p i3 + c * BB ^ i3 = part + B * vp w i3) ∧ Hd (∀ t, i3 ≤ t → p.getD t 0 = w.getD t 0)) w.length
                        ⟨0, part, w, by refine garb ?_; rfl, hid, h0, hG, rfl, hw, hpart, by omega, ⟨by show 0 + part * 1 = part + B * 0; omega⟩, ⟨fun _ _ => rfl⟩⟩ ?_
                      clear h0 hG
                      rintro k3 _ H nx ⟨i3, c, p, ⟨g, rfl⟩, hid, h0, hG, hpl, hpr, hcB, hik3, hvp, htl⟩
                      by_cases hi3 : i3 < w.length
                      · obtain ⟨x, hxx⟩ : ∃ x, x = p.getD i3 0 := ⟨_, rfl⟩
                        have hx4 : x < 4294967296 := by rw [hxx]; exact hpr.get i3
                        obtain ⟨s, hs⟩ : ∃ s, s = c + B * x := ⟨_, rfl⟩
                        obtain ⟨b1, b2, b3⟩ := mulw_bound hBs hx4 hcB hs
                        have hv2 := mulw_step (p := p) (w := w) (i := i3) (c := c) (B := B) (part := part) (s := s) (by omega) hvp.out (by rw [hs, hxx, htl.out i3 (Nat.le_refl _)])
                        have ht2 : ∀ t, i3 + 1 ≤ t → (p.set i3 (s % BB)).getD t 0 = w.getD t 0 := fun t ht => by rw [lget_set_ne (by omega)]; exact htl.out t (by omega)
                        replace hv2 := Hd.mk hv2
                        replace ht2 := Hd.mk ht2
                        have hr2 : InR (p.set i3 (s % BB)) := hpr.set (Nat.mod_lt _ (by decide))
                        clear hvp htl step hgd hpr
                        simp (maxSteps := 4000000) (disch := omega) only [go_sem, ↓reduceIte, Nat.reduceAdd, Nat.reduceSub, Nat.reduceMul, Nat.reduceEqDiff, reduceCtorEq, Int.reduceAdd, Int.reduceLT, Int.reduceLE, Int.reduceToNat, Int.reduceNeg, Int.reduceSub, ← List.map_take, ← List.map_drop, wrap64, wrapu64, wrapu32, ← Int.natCast_add, ← Int.natCast_mul, cast_succ, wrapu32_nat, shr32, reps_wd, map_set_wd, List.length_set, zs_len, hG, h0, hpl, ← hxx, and_low, ← hs, Nat.mod_mod]
                        exact ⟨k3 - 1, by omega, i3 + 1, s / 4294967296, p.set i3 (s % BB), by refine garb ?_; rfl, hid, rfl, by rw [List.length_set, hpl], hr2, b3, by omega, hv2, ht2⟩
                      · obtain rfl : i3 = w.length := by omega
                        by_cases hc0 : c = 0
                        · have f1 := step.out p (mulw_fin0 hpl hc0 hvp.out)
                          clear hvp htl step
                          simp (maxSteps := 4000000) (disch := omega) only [go_sem, ↓reduceIte, Nat.reduceAdd, Nat.reduceSub, Nat.reduceMul, Nat.reduceEqDiff, reduceCtorEq, Int.reduceAdd, Int.reduceLT, Int.reduceLE, Int.reduceToNat, Int.reduceNeg, Int.reduceSub, ← List.map_take, ← List.map_drop, wrap64, wrapu64, wrapu32, ← Int.natCast_add, ← Int.natCast_mul, cast_succ, wrapu32_nat, shr32, reps_wd, map_set_wd, List.length_set, zs_len, hG, h0]
                          exact ⟨k - (i2 - i), by omega, i2, .ref id 0 w.length, p, by refine garb ?_; rfl, by omega, .inr ⟨by omega, id, hid0, hid, by rw [hpl], hG⟩, hpr, by omega, by omega, hgd, f1⟩
                        · have f1 := step.out (p ++ [c]) (mulw_fin hpl hvp.out)
                          have hcs : c < 4294967296 := by omega
                          have f2 := inR_snoc hpr hcs
                          have f3 : c % 4294967296 = c := Nat.mod_eq_of_lt hcs
                          have f4 : (p ++ [c]).length = w.length + 1 := by rw [List.length_append, hpl]; rfl
                          have hm1 : List.map wd p ++ [AV.int .u32 (c : Int)] = List.map wd (p ++ [c]) := by rw [List.map_append]; rfl
                          clear hvp htl step
                          simp (maxSteps := 4000000) (disch := omega) only [go_sem, ↓reduceIte, Nat.reduceAdd, Nat.reduceSub, Nat.reduceMul, Nat.reduceEqDiff, reduceCtorEq, Int.reduceAdd, Int.reduceLT, Int.reduceLE, Int.reduceToNat, Int.reduceNeg, Int.reduceSub, ← List.map_take, ← List.map_drop, wrap64, wrapu64, wrapu32, ← Int.natCast_add, ← Int.natCast_mul, cast_succ, wrapu32_nat, shr32, reps_wd, map_set_wd, List.length_set, zs_len, hG, h0, hpl, f3, reps, fillAll, appendEff, srcCells, List.headD, hm1]
                          exact ⟨k - (i2 - i), by omega, i2, .ref (nx + 1) 0 (w.length + 1), p ++ [c], by refine garb ?_; rfl, by omega, .inr ⟨by omega, nx + 1, by omega, by omega, by rw [f4], upd_same⟩, f2, by omega, by omega, hgd, f1⟩
              · obtain rfl : i = d.length := by omega
                have htk : d.take d.length = d := List.take_length
                have hN2 := hN.out
                rw [htk] at hN2
                have hg : ok = true := hok.out true ⟨fun _ => rfl, fun _ => good_of hgd.out⟩
                rw [hg, ← hN2]
                clear hok hgd hN hN2
                rcases hG with ⟨rfl, rfl⟩ | ⟨hwp, id, hid0, hid, rfl, hG⟩
                · have hmk := rMake_z (neg := neg) (nl := true) (w := []) (z := sg neg (val [])) hw (by simp) rfl
                  simp only [RM, I, List.map_nil] at hmk
                  simp (maxSteps := 4000000) (disch := omega) only [go_sem, ↓reduceIte, Nat.reduceAdd, Nat.reduceSub, Nat.reduceMul, Nat.reduceEqDiff, reduceCtorEq, Int.reduceAdd, Int.reduceLT, Int.reduceLE, Int.reduceToNat, Int.reduceNeg, Int.reduceSub, ← List.map_take, ← List.map_drop, wrap64, wrapu64, wrapu32, ← Int.natCast_add, ← Int.natCast_mul, cast_succ, wrapu32_nat, shr32, reps_wd, map_set_wd, List.length_set, zs_len, bstr_size, hmk, h0, fillAll, reps, refP, elems, places, ng_zero, dg_zero, List.map_nil]
                · have hmk := rMake_z (neg := neg) (nl := false) (w := w) (z := sg neg (val w)) hw (by omega) rfl
                  simp only [RM, I] at hmk
                  simp (maxSteps := 4000000) (disch := omega) only [go_sem, ↓reduceIte, Nat.reduceAdd, Nat.reduceSub, Nat.reduceMul, Nat.reduceEqDiff, reduceCtorEq, Int.reduceAdd, Int.reduceLT, Int.reduceLE, Int.reduceToNat, Int.reduceNeg, Int.reduceSub, ← List.map_take, ← List.map_drop, wrap64, wrapu64, wrapu32, ← Int.natCast_add, ← Int.natCast_mul, cast_succ, wrapu32_nat, shr32, reps_wd, map_set_wd, List.length_set, zs_len, bstr_size, hmk, h0, hG, fillAll, reps, places, List.take_length]
            · clear hok
              rcases hgo with h48 | ⟨h48, rfl, h1d⟩
              · simp (maxSteps := 4000000) (disch := omega) only [go_sem, ↓reduceIte, Nat.reduceAdd, Nat.reduceSub, Nat.reduceMul, Nat.reduceEqDiff, reduceCtorEq, Int.reduceAdd, Int.reduceLT, Int.reduceLE, Int.reduceToNat, Int.reduceNeg, Int.reduceSub, ← List.map_take, ← List.map_drop, wrap64, wrapu64, wrapu32, ← Int.natCast_add, ← Int.natCast_mul, cast_succ, wrapu32_nat, shr32, reps_wd, map_set_wd, List.length_set, zs_len, bstr_size, bstr_get, hu, h48, h02]
                refine garb ?_
                rfl
              · simp (maxSteps := 4000000) (disch := omega) only [go_sem, ↓reduceIte, Nat.reduceAdd, Nat.reduceSub, Nat.reduceMul, Nat.reduceEqDiff, reduceCtorEq, Int.reduceAdd, Int.reduceLT, Int.reduceLE, Int.reduceToNat, Int.reduceNeg, Int.reduceSub, ← List.map_take, ← List.map_drop, wrap64, wrapu64, wrapu32, ← Int.natCast_add, ← Int.natCast_mul, cast_succ, wrapu32_nat, shr32, reps_wd, map_set_wd, List.length_set, zs_len, bstr_size, bstr_get, hu, h48, h02]
                refine garb ?_
                rfl
    · cases hp : pneg l with
      | true =>
        have hpos : 0 < l.length := by
          have : l.getD 0 0 = 45 := of_decide_eq_true hp
          cases l with
          | nil => simp at this
          | cons => simp
        have hd : pbody l = l.drop 1 := by rw [pbody, hp, if_pos rfl]
        have hx := bstr_drop1 (l := l) (by omega)
        rw [hd]
        simp (maxSteps := 4000000) (disch := omega) only [go_sem, ↓reduceIte, Nat.reduceAdd, Nat.reduceSub, Nat.reduceMul, Nat.reduceEqDiff, reduceCtorEq, Int.reduceAdd, Int.reduceLT, Int.reduceLE, Int.reduceToNat, Int.reduceNeg, Int.reduceSub, ← List.map_take, ← List.map_drop, wrap64, wrapu64, wrapu32, ← Int.natCast_add, ← Int.natCast_mul, cast_succ, wrapu32_nat, shr32, reps_wd, map_set_wd, List.length_set, zs_len, bstr_size, cutBounds, hx, h0]
        refine garb ?_
        rfl
      | false =>
        have hd : pbody l = l := by rw [pbody, hp]; rfl
        rw [hd]
        simp (maxSteps := 4000000) (disch := omega) only [go_sem, ↓reduceIte, Nat.reduceAdd, Nat.reduceSub, Nat.reduceMul, Nat.reduceEqDiff, reduceCtorEq, Int.reduceAdd, Int.reduceLT, Int.reduceLE, Int.reduceToNat, Int.reduceNeg, Int.reduceSub, ← List.map_take, ← List.map_drop, wrap64, wrapu64, wrapu32, ← Int.natCast_add, ← Int.natCast_mul, cast_succ, wrapu32_nat, shr32, reps_wd, map_set_wd, List.length_set, zs_len, h0]
        refine garb ?_
        rfl
  · by_cases hn : l = []
    · subst hn
      simp (maxSteps := 4000000) (disch := omega) only [go_sem, ↓reduceIte, Nat.reduceAdd, Nat.reduceSub, Nat.reduceMul, Nat.reduceEqDiff, reduceCtorEq, Int.reduceAdd, Int.reduceLT, Int.reduceLE, Int.reduceToNat, Int.reduceNeg, Int.reduceSub, ← List.map_take, ← List.map_drop, wrap64, wrapu64, wrapu32, ← Int.natCast_add, ← Int.natCast_mul, cast_succ, wrapu32_nat, shr32, reps_wd, map_set_wd, List.length_set, zs_len, bstr_size]
      refine garb ?_
      rfl
    · have hpos : 0 < l.length := List.length_pos_iff.2 hn
      cases hp : pneg l with
      | true =>
        have h45 : ((UInt8.ofNat (l.getD 0 0)).toNat : Int) = 45 := by rw [show l.getD 0 0 = 45 from of_decide_eq_true hp]; rfl
        simp (maxSteps := 4000000) (disch := omega) only [go_sem, ↓reduceIte, Nat.reduceAdd, Nat.reduceSub, Nat.reduceMul, Nat.reduceEqDiff, reduceCtorEq, Int.reduceAdd, Int.reduceLT, Int.reduceLE, Int.reduceToNat, Int.reduceNeg, Int.reduceSub, ← List.map_take, ← List.map_drop, wrap64, wrapu64, wrapu32, ← Int.natCast_add, ← Int.natCast_mul, cast_succ, wrapu32_nat, shr32, reps_wd, map_set_wd, List.length_set, zs_len, bstr_size, bstr_get, h45]
        refine garb ?_
        rfl
      | false =>
        have h45 : ¬ ((l.getD 0 0 : Nat) : Int) = 45 := by have : l.getD 0 0 ≠ 45 := of_decide_eq_false hp; omega
        simp (maxSteps := 4000000) (disch := omega) only [go_sem, ↓reduceIte, Nat.reduceAdd, Nat.reduceSub, Nat.reduceMul, Nat.reduceEqDiff, reduceCtorEq, Int.reduceAdd, Int.reduceLT, Int.reduceLE, Int.reduceToNat, Int.reduceNeg, Int.reduceSub, ← List.map_take, ← List.map_drop, wrap64, wrapu64, wrapu32, ← Int.natCast_add, ← Int.natCast_mul, cast_succ, wrapu32_nat, shr32, reps_wd, map_set_wd, List.length_set, zs_len, bstr_size, bstr_get, hu, h45]
        refine garb ?_
        rfl
end Go.Proofs.Ytpfcijgcjghgeaa
