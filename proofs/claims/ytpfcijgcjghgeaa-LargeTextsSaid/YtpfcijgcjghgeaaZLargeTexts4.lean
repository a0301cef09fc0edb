/- Part 4 of a proof about this seat: Prs2. (Own work of this repo.) -/
import Derived.Test.YtpfcijgcjghgeaaZLargeTexts3
set_option linter.unusedVariables false
set_option linter.unusedSimpArgs false
/- Walks of the reference of chapter 1: the number of a text. (Own work of this repo.) -/
namespace Go.Proofs.Ytpfcijgcjghgeaa
open Vm
set_option maxRecDepth 100000

theorem mulw_step {p w : List Nat} {i c B part s : Nat} (hp : i < p.length) (hv : vp p i + c * BB ^ i = part + B * vp w i) (hs : s = c + B * w.getD i 0) : vp (p.set i (s % BB)) (i + 1) + s / BB * BB ^ (i + 1) = part + B * vp w (i + 1) := by
  have e1 : vp (p.set i (s % BB)) (i + 1) = vp p i + s % BB * BB ^ i := by
    show vp (p.set i (s % BB)) i + (p.set i (s % BB)).getD i 0 * BB ^ i = _
    rw [vp_set _ _ _ _ (Nat.le_refl _), lget_set_self hp]
  have e2 : vp w (i + 1) = vp w i + w.getD i 0 * BB ^ i := rfl
  have e3 := split_mul s (BB ^ i)
  rw [e1, e2, Nat.pow_succ, Nat.add_assoc, e3, hs, Nat.add_mul, Nat.mul_add, ← Nat.mul_assoc, ← Nat.add_assoc, hv, Nat.add_assoc]
theorem mulw_fin0 {p w : List Nat} {c B part : Nat} (hl : p.length = w.length) (hc : c = 0) (h : vp p w.length + c * BB ^ w.length = part + B * vp w w.length) : val p = part + B * val w := by
  subst hc
  rw [Nat.zero_mul, Nat.add_zero] at h
  rw [val, hl]; exact h
theorem mulw_bound {B x c s : Nat} (hB : B ≤ 1000000000) (hx : x < 4294967296) (hc : c < B) (hs : s = c + B * x) : s < 18446744073709551616 ∧ B * x < 18446744073709551616 ∧ s / 4294967296 < B := by
  have h1 : B * x ≤ 1000000000 * 4294967295 := Nat.mul_le_mul hB (by omega)
  have h2 : B * (x + 1) ≤ B * 4294967296 := Nat.mul_le_mul_left _ (by omega)
  rw [Nat.mul_add, Nat.mul_one] at h2
  refine ⟨by omega, by omega, ?_⟩
  refine Nat.div_lt_of_lt_mul ?_
  rw [Nat.mul_comm]; omega
theorem val_snoc : ∀ (p : List Nat) (c : Nat), val (p ++ [c]) = val p + c * BB ^ p.length
  | [], c => by rw [List.nil_append, val_cons, val_nil]; simp [val_nil]
  | x :: xs, c => by
    rw [List.cons_append, val_cons, val_cons, val_snoc xs c, List.length_cons, Nat.pow_succ, Nat.mul_add, Nat.mul_comm BB (c * _), Nat.mul_assoc, Nat.add_assoc]
theorem inR_snoc {p : List Nat} {c : Nat} (h : InR p) (hc : c < 4294967296) : InR (p ++ [c]) := by
  intro x hx
  rcases List.mem_append.1 hx with hx | hx
  · exact h x hx
  · simp at hx; rw [hx]; exact hc
theorem mulw_fin {p w : List Nat} {c B part : Nat} (hl : p.length = w.length) (h : vp p w.length + c * BB ^ w.length = part + B * vp w w.length) : val (p ++ [c]) = part + B * val w := by
  rw [val_snoc, val, hl]; exact h
def GrowW (H : Heap) (nx : Nat) (v : AV) (l : List Nat) : Prop := (l = [] ∧ v = .lst true []) ∨ (0 < l.length ∧ ∃ id, 0 < id ∧ id < nx ∧ v = .ref id 0 l.length ∧ H id = some ⟨l.map wd, false, 1, false⟩)
theorem thenK_cut2 {E : Env} {A B C : Code} {Q Q' : Ex → St → Prop} {σ : St} (h1 : ∀ e σ, Q e σ → thenK E C Q' e σ) (h2 : W E A σ (thenK E B Q)) : thenK E (A.seq (B.seq C)) Q' .norm σ := by
  rw [thenK_norm, W_seq]
  refine W_mono h2 fun e σ h => ?_
  cases e with
  | norm => rw [thenK_norm] at h ⊢; rw [W_seq]; exact W_mono h h1
  | exit i => exact h1 _ _ h
  | ret => exact h1 _ _ h
  | panic v => exact h1 _ _ h
set_option maxHeartbeats 4000000 in
theorem rParse_spec (l : List Nat) (hI : InB l) (hl : l.length < 2 ^ 40) : denP E 50 [.str (bstr l)] = some (.ret (if pOk l then .tup [RM (pval l), .bool true] else .tup [I true 0, .bool false])) := by
  refine denP_eq E50 rfl (by simp [AV.pureL, AV.pure, pure_wd]) ?_
  have hB := inB_drop hI
  have hu := u8_get hI
  simp (maxSteps := 4000000) (disch := omega) only [go_sem, ↓reduceIte, Nat.reduceAdd, Nat.reduceSub, Nat.reduceMul, Nat.reduceEqDiff, reduceCtorEq, Int.reduceAdd, Int.reduceLT, Int.reduceLE, Int.reduceToNat, Int.reduceNeg, Int.reduceSub, ← List.map_take, ← List.map_drop, wrap64, wrapu64, wrapu32, ← Int.natCast_add, ← Int.natCast_mul, cast_succ, wrapu32_nat, shr32, reps_wd, map_set_wd, List.length_set, zs_len, Try.f50, bstr_size, fillAll, reps, refP, elems, places, ng_zero, dg_zero, List.map_nil]
  refine wantK_mono (Q := fun e σ => e = .norm ∧ (∃ g : Nat → AV, σ.sl = [.str (bstr l), g 1, .ptr 0 0, .bool false, .bool (pneg l), g 5, g 6, g 7, g 8, g 9, g 10, g 11, g 12, g 13, g 14, g 15, g 16, g 17, g 18, g 19, g 20, g 21, g 22, g 23, g 24, g 25, g 26, g 27, g 28, g 29, g 30, g 31, g 32, g 33, g 34, g 35, g 36, g 37, g 38, g 39, g 40, g 41, g 42, g 43, g 44, g 45, g 46, g 47, g 48, g 49, g 50, g 51, g 52, g 53, g 54, g 55, g 56, g 57, g 58, g 59, g 60, g 61, g 62, g 63, g 64, g 65, g 66, g 67, g 68, g 69, g 70, g 71, g 72, g 73, g 74, g 75, g 76, g 77, g 78, g 79, g 80, g 81, g 82, g 83, g 84, g 85, g 86, g 87, g 88, g 89, g 90, g 91, g 92, g 93, g 94, g 95, g 96, g 97, g 98, g 99, g 100, g 101, g 102, g 103, g 104, g 105, g 106, g 107, g 108, g 109, g 110, g 111, g 112, g 113, g 114, g 115]) ∧ σ.nx = 1 ∧ σ.h 0 = some ⟨[.bool false, .lst true []], true, 2, false⟩) ?_ ?_
  · rintro e ⟨sl, H, nx⟩ ⟨rfl, ⟨g, hs⟩, rfl, h0⟩
    dsimp only at hs h0
    subst hs
    refine thenK_cut2 (Q := fun e σ => e = .norm ∧ (∃ g : Nat → AV, σ.sl = [.str (bstr l), g 1, .ptr 0 0, .bool false, .bool (pneg l), .str (bstr (pbody l)), g 6, g 7, g 8, g 9, g 10, g 11, g 12, g 13, g 14, g 15, g 16, g 17, g 18, g 19, g 20, g 21, g 22, g 23, g 24, g 25, g 26, g 27, g 28, g 29, g 30, g 31, g 32, g 33, g 34, g 35, g 36, g 37, g 38, g 39, g 40, g 41, g 42, g 43, g 44, g 45, g 46, g 47, g 48, g 49, g 50, g 51, g 52, g 53, g 54, g 55, g 56, g 57, g 58, g 59, g 60, g 61, g 62, g 63, g 64, g 65, g 66, g 67, g 68, g 69, g 70, g 71, g 72, g 73, g 74, g 75, g 76, g 77, g 78, g 79, g 80, g 81, g 82, g 83, g 84, g 85, g 86, g 87, g 88, g 89, g 90, g 91, g 92, g 93, g 94, g 95, g 96, g 97, g 98, g 99, g 100, g 101, g 102, g 103, g 104, g 105, g 106, g 107, g 108, g 109, g 110, g 111, g 112, g 113, g 114, g 115]) ∧ σ.nx = 1 ∧ σ.h 0 = some ⟨[.bool false, .lst true []], true, 2, false⟩) ?_ ?_
    · rintro e ⟨sl, H2, nx⟩ ⟨rfl, ⟨g2, hs⟩, rfl, h02⟩
      dsimp only at hs h02
      subst hs
      clear h0
      have hok : pOk l = decide (l.length ≤ 60000 ∧ pbody l ≠ [] ∧ ¬ ((pbody l).getD 0 0 = 48 ∧ (pneg l = true ∨ 1 < (pbody l).length)) ∧ Good (pbody l)) := rfl
      have hv : pval l = sg (pneg l) (dval (pbody l)) := rfl
      have hdl := pbody_len l
      rw [hok, hv]
      clear hok hv hu
      generalize pneg l = neg at *
      generalize pbody l = d at *
      have hu := u8_get hB
      by_cases hd0 : d = []
      · rw [decide_eq_false (fun h => h.2.1 hd0)]
        subst hd0
        simp (maxSteps := 4000000) (disch := omega) only [go_sem, ↓reduceIte, Nat.reduceAdd, Nat.reduceSub, Nat.reduceMul, Nat.reduceEqDiff, reduceCtorEq, Int.reduceAdd, Int.reduceLT, Int.reduceLE, Int.reduceToNat, Int.reduceNeg, Int.reduceSub, ← List.map_take, ← List.map_drop, wrap64, wrapu64, wrapu32, ← Int.natCast_add, ← Int.natCast_mul, cast_succ, wrapu32_nat, shr32, reps_wd, map_set_wd, List.length_set, zs_len, bstr_size, h02, List.length_nil, fillAll, reps, refP, elems, places, ng_zero, dg_zero, List.map_nil]
      · have hpos : 0 < d.length := List.length_pos_iff.2 hd0
        by_cases hlong : 60000 < l.length
        · rw [decide_eq_false (fun h => absurd h.1 (by omega))]
          simp (maxSteps := 4000000) (disch := omega) only [go_sem, ↓reduceIte, Nat.reduceAdd, Nat.reduceSub, Nat.reduceMul, Nat.reduceEqDiff, reduceCtorEq, Int.reduceAdd, Int.reduceLT, Int.reduceLE, Int.reduceToNat, Int.reduceNeg, Int.reduceSub, ← List.map_take, ← List.map_drop, wrap64, wrapu64, wrapu32, ← Int.natCast_add, ← Int.natCast_mul, cast_succ, wrapu32_nat, shr32, reps_wd, map_set_wd, List.length_set, zs_len, bstr_size, h02, fillAll, reps, refP, elems, places, ng_zero, dg_zero, List.map_nil]
        · have hdl2 : d.length ≤ 60000 := by omega
          by_cases hh : d.getD 0 0 = 48 ∧ (neg = true ∨ 1 < d.length)
          · rw [decide_eq_false (fun h => h.2.2.1 hh)]
            have h48 : ((d.getD 0 0 : Nat) : Int) = 48 := by rw [hh.1]; rfl
            have hh2 := hh.2
            clear hh
            cases neg with
            | true => simp (maxSteps := 4000000) (disch := omega) only [go_sem, ↓reduceIte, Nat.reduceAdd, Nat.reduceSub, Nat.reduceMul, Nat.reduceEqDiff, reduceCtorEq, Int.reduceAdd, Int.reduceLT, Int.reduceLE, Int.reduceToNat, Int.reduceNeg, Int.reduceSub, ← List.map_take, ← List.map_drop, wrap64, wrapu64, wrapu32, ← Int.natCast_add, ← Int.natCast_mul, cast_succ, wrapu32_nat, shr32, reps_wd, map_set_wd, List.length_set, zs_len, bstr_size, bstr_get, hu, h48, h02, fillAll, reps, refP, elems, places, ng_zero, dg_zero, List.map_nil]
            | false =>
              have h1d : 1 < d.length := by
                rcases hh2 with h | h
                · cases h
                · exact h
              simp (maxSteps := 4000000) (disch := omega) only [go_sem, ↓reduceIte, Nat.reduceAdd, Nat.reduceSub, Nat.reduceMul, Nat.reduceEqDiff, reduceCtorEq, Int.reduceAdd, Int.reduceLT, Int.reduceLE, Int.reduceToNat, Int.reduceNeg, Int.reduceSub, ← List.map_take, ← List.map_drop, wrap64, wrapu64, wrapu32, ← Int.natCast_add, ← Int.natCast_mul, cast_succ, wrapu32_nat, shr32, reps_wd, map_set_wd, List.length_set, zs_len, bstr_size, bstr_get, hu, h48, h02, fillAll, reps, refP, elems, places, ng_zero, dg_zero, List.map_nil]
          · have hgo : (¬ ((d.getD 0 0 : Nat) : Int) = 48) ∨ (((d.getD 0 0 : Nat) : Int) = 48 ∧ neg = false ∧ d.length = 1) := by
              by_cases h48 : d.getD 0 0 = 48
              · right
                have h9 : ¬ (neg = true ∨ 1 < d.length) := fun h => hh ⟨h48, h⟩
                have hn9 : neg = false := by cases neg with
                  | true => exact absurd (.inl rfl) h9
                  | false => rfl
                have hl9 : d.length = 1 := by
                  by_cases h : 1 < d.length
                  · exact absurd (.inr h) h9
                  · omega
                exact ⟨by omega, hn9, hl9⟩
              · exact .inl (by omega)
            have hok : ∀ b : Bool, (Good d ↔ b = true) → decide (l.length ≤ 60000 ∧ d ≠ [] ∧ ¬ (d.getD 0 0 = 48 ∧ (neg = true ∨ 1 < d.length)) ∧ Good d) = b := by
              intro b hb
              cases b with
              | true => exact decide_eq_true ⟨by omega, hd0, hh, hb.2 rfl⟩
              | false => exact decide_eq_false fun h => by have := hb.1 h.2.2.2; cases this
            generalize decide (l.length ≤ 60000 ∧ d ≠ [] ∧ ¬ (d.getD 0 0 = 48 ∧ (neg = true ∨ 1 < d.length)) ∧ Good d) = ok at *
            replace hok := Hd.mk hok
            clear hh
            refine thenK_cut (Q := fun e σ => e = .norm ∧ (∃ g : Nat → AV, σ.sl = [.str (bstr l), g 1, .ptr 0 0, .bool false, .bool neg, .str (bstr d), g 6, g 7, g 8, g 9, g 10, g 11, g 12, g 13, g 14, g 15, g 16, g 17, g 18, g 19, g 20, g 21, g 22, g 23, g 24, g 25, g 26, g 27, g 28, g 29, g 30, g 31, g 32, g 33, g 34, g 35, g 36, g 37, g 38, g 39, g 40, g 41, g 42, g 43, g 44, g 45, g 46, g 47, g 48, g 49, g 50, g 51, g 52, g 53, g 54, g 55, g 56, g 57, g 58, g 59, g 60, g 61, g 62, g 63, g 64, g 65, g 66, g 67, g 68, g 69, g 70, g 71, g 72, g 73, g 74, g 75, g 76, g 77, g 78, g 79, g 80, g 81, g 82, g 83, g 84, g 85, g 86, g 87, g 88, g 89, g 90, g 91, g 92, g 93, g 94, g 95, g 96, g 97, g 98, g 99, g 100, g 101, g 102, g 103, g 104, g 105, g 106, g 107, g 108, g 109, g 110, g 111, g 112, g 113, g 114, g 115]) ∧ σ.nx = 1 ∧ σ.h 0 = some ⟨[.bool false, .lst true []], true, 2, false⟩) ?_ ?_
            · rintro e ⟨sl, H2, nx⟩ ⟨rfl, ⟨g2, hs⟩, rfl, h02⟩
              dsimp only at hs h02
              subst hs
              clear hgo
              simp (maxSteps := 4000000) (disch := omega) only [go_sem, ↓reduceIte, Nat.reduceAdd, Nat.reduceSub, Nat.reduceMul, Nat.reduceEqDiff, reduceCtorEq, Int.reduceAdd, Int.reduceLT, Int.reduceLE, Int.reduceToNat, Int.reduceNeg, Int.reduceSub, ← List.map_take, ← List.map_drop, wrap64, wrapu64, wrapu32, ← Int.natCast_add, ← Int.natCast_mul, cast_succ, wrapu32_nat, shr32, reps_wd, map_set_wd, List.length_set, zs_len]
              refine W_loopS (fun k sl H nx => ∃ (i : Nat) (v : AV) (w : List Nat), (∃ g : Nat → AV, sl = [.str (bstr l), g 1, .ptr 0 0, .bool false, .bool neg, .str (bstr d), v, .int .i64 i, g 8, g 9, g 10, g 11, g 12, g 13, g 14, g 15, g 16, g 17, g 18, g 19, g 20, g 21, g 22, g 23, g 24, g 25, g 26, g 27, g 28, g 29, g 30, g 31, g 32, g 33, g 34, g 35, g 36, g 37, g 38, g 39, g 40, g 41, g 42, g 43, g 44, g 45, g 46, g 47, g 48, g 49, g 50, g 51, g 52, g 53, g 54, g 55, g 56, g 57, g 58, g 59, g 60, g 61, g 62, g 63, g 64, g 65, g 66, g 67, g 68, g 69, g 70, g 71, g 72, g 73, g 74, g 75, g 76, g 77, g 78, g 79, g 80, g 81, g 82, g 83, g 84, g 85, g 86, g 87, g 88, g 89, g 90, g 91, g 92, g 93, g 94, g 95, g 96, g 97, g 98, g 99, g 100, g 101, g 102, g 103, g 104, g 105, g 106, g 107, g 108, g 109, g 110, g 111, g 112, g 113, g 114, g 115]) ∧ 1 ≤ nx ∧
                H 0 = some ⟨[.bool false, .lst true []], true, 2, false⟩ ∧ GrowW H nx v w ∧ InR w ∧ w.length ≤ i ∧ i + k = d.length ∧ Hd (∀ t, t < i → 48 ≤ d.getD t 0 ∧ d.getD t 0 ≤ 57) ∧ Hd (val w = dval (d.take i))) d.length
                ⟨0, .lst true [], [], by refine garb ?_; rfl, Nat.le_refl 1, h02, .inl ⟨rfl, rfl⟩, (fun _ h => by cases h), Nat.le_refl _, by omega, ⟨fun t ht => absurd ht (Nat.not_lt_zero _)⟩, ⟨by rw [List.take_zero, dval_nil, val_nil]⟩⟩ ?_
              clear h02
              rintro k _ H nx ⟨i, v, w, ⟨g, rfl⟩, hnx, h0, hG, hw, hwl, hik, hgd, hN⟩
              by_cases hi : i < d.length
              · simp (maxSteps := 4000000) (disch := omega) only [go_sem, ↓reduceIte, Nat.reduceAdd, Nat.reduceSub, Nat.reduceMul, Nat.reduceEqDiff, reduceCtorEq, Int.reduceAdd, Int.reduceLT, Int.reduceLE, Int.reduceToNat, Int.reduceNeg, Int.reduceSub, ← List.map_take, ← List.map_drop, wrap64, wrapu64, wrapu32, ← Int.natCast_add, ← Int.natCast_mul, cast_succ, wrapu32_nat, shr32, reps_wd, map_set_wd, List.length_set, zs_len, bstr_size]
                refine W_loopS (fun k sl H nx => ∃ (i2 j part B : Nat), (∃ g : Nat → AV, sl = [.str (bstr l), g 1, .ptr 0 0, .bool false, .bool neg, .str (bstr d), v, .int .i64 i2, .int .u64 B, .int .u64 part, .int .i64 j, g 11, g 12, g 13, g 14, g 15, g 16, g 17, g 18, g 19, g 20, g 21, g 22, g 23, g 24, g 25, g 26, g 27, g 28, g 29, g 30, g 31, g 32, g 33, g 34, g 35, g 36, g 37, g 38, g 39, g 40, g 41, g 42, g 43, g 44, g 45, g 46, g 47, g 48, g 49, g 50, g 51, g 52, g 53, g 54, g 55, g 56, g 57, g 58, g 59, g 60, g 61, g 62, g 63, g 64, g 65, g 66, g 67, g 68, g 69, g 70, g 71, g 72, g 73, g 74, g 75, g 76, g 77, g 78, g 79, g 80, g 81, g 82, g 83, g 84, g 85, g 86, g 87, g 88, g 89, g 90, g 91, g 92, g 93, g 94, g 95, g 96, g 97, g 98, g 99, g 100, g 101, g 102, g 103, g 104, g 105, g 106, g 107, g 108, g 109, g 110, g 111, g 112, g 113, g 114, g 115]) ∧ 1 ≤ nx ∧
                  H 0 = some ⟨[.bool false, .lst true []], true, 2, false⟩ ∧ GrowW H nx v w ∧ i2 + k = d.length ∧ i2 = i + j ∧ j ≤ 9 ∧ (j < 9 → B ≤ 100000000) ∧ (j = 9 → B = 1000000000) ∧ part < B ∧ Hd (B = 10 ^ j) ∧ Hd (∀ t, t < i2 → 48 ≤ d.getD t 0 ∧ d.getD t 0 ≤ 57) ∧ Hd (part + B * val w = dval (d.take i2))) (d.length - i)
                  ⟨i, 0, 0, 1, by refine garb ?_; rfl, hnx, h0, hG, by omega, by omega, by omega, fun _ => by omega, fun h => by omega, by omega, ⟨rfl⟩, hgd, ⟨by rw [Nat.one_mul, Nat.zero_add]; exact hN.out⟩⟩ ?_
                clear h0 hgd hN hnx hG
                rintro k2 _ H nx ⟨i2, j, part, B, ⟨g, rfl⟩, hnx, h0, hG, hik2, hij, hj9, hB1, hB2, hpart, hBj, hgd, hN⟩
                by_cases hgo : i2 < d.length ∧ j < 9
                · obtain ⟨hi2, hj⟩ := hgo
                  have hB1 := hB1 hj
                  have hx := inB_get hB i2
                  obtain ⟨x, hxx⟩ : ∃ x, x = d.getD i2 0 := ⟨_, rfl⟩
                  have hux : ((UInt8.ofNat x).toNat : Int) = (x : Int) := by rw [hxx, u8_nat hx]
                  by_cases hc : 48 ≤ d.getD i2 0 ∧ d.getD i2 0 ≤ 57
                  · obtain ⟨hc1, hc2⟩ := hc
                    obtain ⟨y, hy⟩ : ∃ y, y = x - 48 := ⟨_, rfl⟩
                    obtain ⟨P, hP⟩ : ∃ P, P = 10 * part + y := ⟨_, rfl⟩
                    obtain ⟨B2, hB2'⟩ : ∃ B2, B2 = 10 * B := ⟨_, rfl⟩
                    have hgd2 : ∀ t, t < i2 + 1 → 48 ≤ d.getD t 0 ∧ d.getD t 0 ≤ 57 := fun t ht => by
                      by_cases h : t = i2
                      · subst h; exact ⟨hc1, hc2⟩
                      · exact hgd.out t (by omega)
                    have hBj2 : B2 = 10 ^ (j + 1) := by rw [hB2', hBj.out, Nat.pow_succ, Nat.mul_comm]
                    have hN2 : P + B2 * val w = dval (d.take (i2 + 1)) := by
                      rw [dval_take hi2, ← hN.out, ← hxx, ← hy, hP, hB2', Nat.mul_add, Nat.mul_assoc]; omega
                    obtain ⟨m1, m2⟩ := pow10 hBj2
                    have hP2 : P < B2 := by omega
                    replace hgd2 := Hd.mk hgd2
                    replace hBj2 := Hd.mk hBj2
                    replace hN2 := Hd.mk hN2
                    have e1 : IntKind.u8.wrap ((x : Int) - 48) = (y : Int) := by rw [IntKind.wrap_u8']; omega
                    have e3 : (10 : Int) * (part : Int) + (y : Int) = (P : Int) := by omega
                    have e4 : (10 : Int) * (B : Int) = (B2 : Int) := by omega
                    have e5 : IntKind.u64.wrap ((10 : Int) * (part : Int)) = (10 : Int) * (part : Int) := by rw [IntKind.wrap_u64]; omega
                    have hys : y < 18446744073709551616 := by omega
                    have hPs : P < 18446744073709551616 := by omega
                    have hBs : B2 < 18446744073709551616 := by omega
                    rw [← hxx] at hc1 hc2
                    clear hok hgd hN hBj hB2 hy hP hB2' hw
                    simp (maxSteps := 4000000) (disch := omega) only [go_sem, ↓reduceIte, Nat.reduceAdd, Nat.reduceSub, Nat.reduceMul, Nat.reduceEqDiff, reduceCtorEq, Int.reduceAdd, Int.reduceLT, Int.reduceLE, Int.reduceToNat, Int.reduceNeg, Int.reduceSub, ← List.map_take, ← List.map_drop, wrap64, wrapu64, wrapu32, ← Int.natCast_add, ← Int.natCast_mul, cast_succ, wrapu32_nat, shr32, reps_wd, map_set_wd, List.length_set, zs_len, bstr_size, bstr_get, ← hxx, hux]
                    refine W_drawn ?_
                    simp (maxSteps := 4000000) (disch := omega) only [go_sem, ↓reduceIte, Nat.reduceAdd, Nat.reduceSub, Nat.reduceMul, Nat.reduceEqDiff, reduceCtorEq, Int.reduceAdd, Int.reduceLT, Int.reduceLE, Int.reduceToNat, Int.reduceNeg, Int.reduceSub, ← List.map_take, ← List.map_drop, wrap64, wrapu64, wrapu32, ← Int.natCast_add, ← Int.natCast_mul, cast_succ, wrapu32_nat, shr32, reps_wd, map_set_wd, List.length_set, zs_len, bstr_size, bstr_get, ← hxx, hux, e1, e5, e3, e4]
                    refine ⟨by rfl, ?_⟩
                    exact ⟨k2 - 1, by omega, i2 + 1, j + 1, P, B2, by refine garb ?_; rfl, hnx, h0, hG, by omega, by omega, by omega, m1, m2, hP2, hBj2, hgd2, hN2⟩
                  · have hbad : ok = false := hok.out false ⟨fun h => absurd (good_get h hi2) hc, fun h => by cases h⟩
                    rw [hbad]
                    rw [← hxx] at hc hx
                    clear hok hgd hN hBj hB2 hbad hw hG
                    by_cases hlow : x < 48
                    · simp (maxSteps := 4000000) (disch := omega) only [go_sem, ↓reduceIte, Nat.reduceAdd, Nat.reduceSub, Nat.reduceMul, Nat.reduceEqDiff, reduceCtorEq, Int.reduceAdd, Int.reduceLT, Int.reduceLE, Int.reduceToNat, Int.reduceNeg, Int.reduceSub, ← List.map_take, ← List.map_drop, wrap64, wrapu64, wrapu32, ← Int.natCast_add, ← Int.natCast_mul, cast_succ, wrapu32_nat, shr32, reps_wd, map_set_wd, List.length_set, zs_len, bstr_size, bstr_get, ← hxx, hux, h0, fillAll, reps, refP, elems, places, ng_zero, dg_zero, List.map_nil]
                    · simp (maxSteps := 4000000) (disch := omega) only [go_sem, ↓reduceIte, Nat.reduceAdd, Nat.reduceSub, Nat.reduceMul, Nat.reduceEqDiff, reduceCtorEq, Int.reduceAdd, Int.reduceLT, Int.reduceLE, Int.reduceToNat, Int.reduceNeg, Int.reduceSub, ← List.map_take, ← List.map_drop, wrap64, wrapu64, wrapu32, ← Int.natCast_add, ← Int.natCast_mul, cast_succ, wrapu32_nat, shr32, reps_wd, map_set_wd, List.length_set, zs_len, bstr_size, bstr_get, ← hxx, hux, h0, fillAll, reps, refP, elems, places, ng_zero, dg_zero, List.map_nil]
                · have hstop : (j < 9 ∧ d.length ≤ i2) ∨ j = 9 := by omega
                  have hji : i < i2 := by omega
                  have hi2l : i2 ≤ d.length := by omega
                  have hBs : B ≤ 1000000000 := by
                    by_cases h : j < 9
                    · have := hB1 h; omega
                    · have := hB2 (by omega); omega
                  clear hok hBj hB1 hB2 hgo
                  have step : ∀ (w2 : List Nat), val w2 = part + B * val w → Hd (val w2 = dval (d.take i2)) := fun w2 h => ⟨by rw [h]; exact hN.out⟩
                  replace step := Hd.mk step
                  clear hN
                  rcases hG with ⟨rfl, rfl⟩ | ⟨hwp, id, hid0, hid, rfl, hG⟩
                  · have hps : part < 4294967296 := by omega
                    have hfin : ∀ (w2 : List Nat), val w2 = part → Hd (val w2 = dval (d.take i2)) := fun w2 h => step.out w2 (by rw [h, val_nil, Nat.mul_zero, Nat.add_zero])
                    have f1 : part = 0 → Hd (val [] = dval (d.take i2)) := fun h => hfin [] (by rw [h]; rfl)
                    have f2 : Hd (val [part] = dval (d.take i2)) := hfin [part] (val_sing part)
                    have f3 : InR [part] := by intro x hx; simp at hx; rw [hx]; exact hps
                    clear hfin step hw
                    rcases hstop with ⟨hs1, hs2⟩ | hs1
                    · simp (maxSteps := 4000000) (disch := omega) only [go_sem, ↓reduceIte, Nat.reduceAdd, Nat.reduceSub, Nat.reduceMul, Nat.reduceEqDiff, reduceCtorEq, Int.reduceAdd, Int.reduceLT, Int.reduceLE, Int.reduceToNat, Int.reduceNeg, Int.reduceSub, ← List.map_take, ← List.map_drop, wrap64, wrapu64, wrapu32, ← Int.natCast_add, ← Int.natCast_mul, cast_succ, wrapu32_nat, shr32, reps_wd, map_set_wd, List.length_set, zs_len, bstr_size]
                      rw [W_unroll]
                      by_cases hp0 : part = 0
                      · have f1 := f1 hp0
                        simp (maxSteps := 4000000) (disch := omega) only [go_sem, ↓reduceIte, Nat.reduceAdd, Nat.reduceSub, Nat.reduceMul, Nat.reduceEqDiff, reduceCtorEq, Int.reduceAdd, Int.reduceLT, Int.reduceLE, Int.reduceToNat, Int.reduceNeg, Int.reduceSub, ← List.map_take, ← List.map_drop, wrap64, wrapu64, wrapu32, ← Int.natCast_add, ← Int.natCast_mul, cast_succ, wrapu32_nat, shr32, reps_wd, map_set_wd, List.length_set, zs_len, bstr_size, List.map_nil]
                        exact ⟨k - (i2 - i), by omega, i2, .lst true [], [], by refine garb ?_; rfl, hnx, h0, .inl ⟨rfl, rfl⟩, (fun _ h => by cases h), Nat.zero_le _, by omega, hgd, f1⟩
                      · simp (maxSteps := 4000000) (disch := omega) only [go_sem, ↓reduceIte, Nat.reduceAdd, Nat.reduceSub, Nat.reduceMul, Nat.reduceEqDiff, reduceCtorEq, Int.reduceAdd, Int.reduceLT, Int.reduceLE, Int.reduceToNat, Int.reduceNeg, Int.reduceSub, ← List.map_take, ← List.map_drop, wrap64, wrapu64, wrapu32, ← Int.natCast_add, ← Int.natCast_mul, cast_succ, wrapu32_nat, shr32, reps_wd, map_set_wd, List.length_set, zs_len, bstr_size, List.map_nil, h0, reps, fillAll, appendEff, srcCells, List.headD, flat]
                        exact ⟨k - (i2 - i), by omega, i2, .ref (nx + 1) 0 1, [part], by refine garb ?_; rfl, by omega, .inr ⟨Nat.one_pos, nx + 1, by omega, by omega, rfl, upd_same⟩, f3, by simp; omega, by omega, hgd, f2⟩
                    · simp (maxSteps := 4000000) (disch := omega) only [go_sem, ↓reduceIte, Nat.reduceAdd, Nat.reduceSub, Nat.reduceMul, Nat.reduceEqDiff, reduceCtorEq, Int.reduceAdd, Int.reduceLT, Int.reduceLE, Int.reduceToNat, Int.reduceNeg, Int.reduceSub, ← List.map_take, ← List.map_drop, wrap64, wrapu64, wrapu32, ← Int.natCast_add, ← Int.natCast_mul, cast_succ, wrapu32_nat, shr32, reps_wd, map_set_wd, List.length_set, zs_len, bstr_size]
                      rw [W_unroll]
                      by_cases hp0 : part = 0
                      · have f1 := f1 hp0
                        simp (maxSteps := 4000000) (disch := omega) only [go_sem, ↓reduceIte, Nat.reduceAdd, Nat.reduceSub, Nat.reduceMul, Nat.reduceEqDiff, reduceCtorEq, Int.reduceAdd, Int.reduceLT, Int.reduceLE, Int.reduceToNat, Int.reduceNeg, Int.reduceSub, ← List.map_take, ← List.map_drop, wrap64, wrapu64, wrapu32, ← Int.natCast_add, ← Int.natCast_mul, cast_succ, wrapu32_nat, shr32, reps_wd, map_set_wd, List.length_set, zs_len, bstr_size, List.map_nil]
                        exact ⟨k - (i2 - i), by omega, i2, .lst true [], [], by refine garb ?_; rfl, hnx, h0, .inl ⟨rfl, rfl⟩, (fun _ h => by cases h), Nat.zero_le _, by omega, hgd, f1⟩
                      · simp (maxSteps := 4000000) (disch := omega) only [go_sem, ↓reduceIte, Nat.reduceAdd, Nat.reduceSub, Nat.reduceMul, Nat.reduceEqDiff, reduceCtorEq, Int.reduceAdd, Int.reduceLT, Int.reduceLE, Int.reduceToNat, Int.reduceNeg, Int.reduceSub, ← List.map_take, ← List.map_drop, wrap64, wrapu64, wrapu32, ← Int.natCast_add, ← Int.natCast_mul, cast_succ, wrapu32_nat, shr32, reps_wd, map_set_wd, List.length_set, zs_len, bstr_size, List.map_nil, h0, reps, fillAll, appendEff, srcCells, List.headD, flat]
                        exact ⟨k - (i2 - i), by omega, i2, .ref (nx + 1) 0 1, [part], by refine garb ?_; rfl, by omega, .inr ⟨Nat.one_pos, nx + 1, by omega, by omega, rfl, upd_same⟩, f3, by simp; omega, by omega, hgd, f2⟩
                  · clear hu
                    rcases hstop with ⟨hs1, hs2⟩ | hs1
                    · simp (maxSteps := 4000000) (disch := omega) only [go_sem, ↓reduceIte, Nat.reduceAdd, Nat.reduceSub, Nat.reduceMul, Nat.reduceEqDiff, reduceCtorEq, Int.reduceAdd, Int.reduceLT, Int.reduceLE, Int.reduceToNat, Int.reduceNeg, Int.reduceSub, ← List.map_take, ← List.map_drop, wrap64, wrapu64, wrapu32, ← Int.natCast_add, ← Int.natCast_mul, cast_succ, wrapu32_nat, shr32, reps_wd, map_set_wd, List.length_set, zs_len, bstr_size]
                      refine W_loopS (fun k3 sl H nx => ∃ (i3 c : Nat) (p : List Nat), (∃ g : Nat → AV, sl = [.str (bstr l), g 1, .ptr 0 0, .bool false, .bool neg, .str (bstr d), .ref id 0 w.length, .int .i64 i2, .int .u64 B, .int .u64 c, g 10, .int .i64 i3, g 12, g 13, g 14, g 15, g 16, g 17, g 18, g 19, g 20, g 21, g 22, g 23, g 24, g 25, g 26, g 27, g 28, g 29, g 30, g 31, g 32, g 33, g 34, g 35, g 36, g 37, g 38, g 39, g 40, g 41, g 42, g 43, g 44, g 45, g 46, g 47, g 48, g 49, g 50, g 51, g 52, g 53, g 54, g 55, g 56, g 57, g 58, g 59, g 60, g 61, g 62, g 63, g 64, g 65, g 66, g 67, g 68, g 69, g 70, g 71, g 72, g 73, g 74, g 75, g 76, g 77, g 78, g 79, g 80, g 81, g 82, g 83, g 84, g 85, g 86, g 87, g 88, g 89, g 90, g 91, g 92, g 93, g 94, g 95, g 96, g 97, g 98, g 99, g 100, g 101, g 102, g 103, g 104, g 105, g 106, g 107, g 108, g 109, g 110, g 111, g 112, g 113, g 114, g 115]) ∧ id < nx ∧ H 0 = some ⟨[.bool false, .lst true []], true, 2, false⟩ ∧
                        H id = some ⟨p.map wd, false, 1, false⟩ ∧ p.length = w.length ∧ InR p ∧ c < B ∧ i3 + k3 = w.length ∧ Hd (vp p i3 + c * BB ^ i3 = part + B * vp w i3) ∧ Hd (∀ t, i3 ≤ t → p.getD t 0 = w.getD t 0)) w.length
                        ⟨0, part, w, by refine garb ?_; rfl, hid, h0, hG, rfl, hw, hpart, by omega, ⟨by show 0 + part * 1 = part + B * 0; omega⟩, ⟨fun _ _ => rfl⟩⟩ ?_
                      clear h0 hG
                      rintro k3 _ H nx ⟨i3, c, p, ⟨g, rfl⟩, hid, h0, hG, hpl, hpr, hcB, hik3, hvp, htl⟩
                      by_cases hi3 : i3 < w.length
                      · obtain ⟨x, hxx⟩ : ∃ x, x = p.getD i3 0 := ⟨_, rfl⟩
                        have hx4 : x < 4294967296 := by rw [hxx]; exact hpr.get i3
                        obtain ⟨s, hs⟩ : ∃ s, s = c + B * x := ⟨_, rfl⟩
                        obtain ⟨b1, b2, b3⟩ := mulw_bound hBs hx4 hcB hs
                        have hv2 := mulw_step (p := p) (w := w) (i := i3) (c := c) (B := B) (part := part) (s := s) (by omega) hvp.out (by rw [hs, hxx, htl.out i3 (Nat.le_refl _)])
                        have ht2 : ∀ t, i3 + 1 ≤ t → (p.set i3 (s % BB)).getD t 0 = w.getD t 0 := fun t ht => by rw [lget_set_ne (by omega)]; exact htl.out t (by omega)
                        replace hv2 := Hd.mk hv2
                        replace ht2 := Hd.mk ht2
                        have hr2 : InR (p.set i3 (s % BB)) := hpr.set (Nat.mod_lt _ (by decide))
                        clear hvp htl step hgd hpr
                        simp (maxSteps := 4000000) (disch := omega) only [go_sem, ↓reduceIte, Nat.reduceAdd, Nat.reduceSub, Nat.reduceMul, Nat.reduceEqDiff, reduceCtorEq, Int.reduceAdd, Int.reduceLT, Int.reduceLE, Int.reduceToNat, Int.reduceNeg, Int.reduceSub, ← List.map_take, ← List.map_drop, wrap64, wrapu64, wrapu32, ← Int.natCast_add, ← Int.natCast_mul, cast_succ, wrapu32_nat, shr32, reps_wd, map_set_wd, List.length_set, zs_len, hG, h0, hpl, ← hxx, and_low, ← hs, Nat.mod_mod]
                        exact ⟨k3 - 1, by omega, i3 + 1, s / 4294967296, p.set i3 (s % BB), by refine garb ?_; rfl, hid, rfl, by rw [List.length_set, hpl], hr2, b3, by omega, hv2, ht2⟩
                      · obtain rfl : i3 = w.length := by omega
                        by_cases hc0 : c = 0
                        · have f1 := step.out p (mulw_fin0 hpl hc0 hvp.out)
                          clear hvp htl step
                          simp (maxSteps := 4000000) (disch := omega) only [go_sem, ↓reduceIte, Nat.reduceAdd, Nat.reduceSub, Nat.reduceMul, Nat.reduceEqDiff, reduceCtorEq, Int.reduceAdd, Int.reduceLT, Int.reduceLE, Int.reduceToNat, Int.reduceNeg, Int.reduceSub, ← List.map_take, ← List.map_drop, wrap64, wrapu64, wrapu32, ← Int.natCast_add, ← Int.natCast_mul, cast_succ, wrapu32_nat, shr32, reps_wd, map_set_wd, List.length_set, zs_len, hG, h0]
                          exact ⟨k - (i2 - i), by omega, i2, .ref id 0 w.length, p, by refine garb ?_; rfl, by omega, .inr ⟨by omega, id, hid0, hid, by rw [hpl], hG⟩, hpr, by omega, by omega, hgd, f1⟩
                        · have f1 := step.out (p ++ [c]) (mulw_fin hpl hvp.out)
                          have hcs : c < 4294967296 := by omega
                          have f2 := inR_snoc hpr hcs
                          have f3 : c % 4294967296 = c := Nat.mod_eq_of_lt hcs
                          have f4 : (p ++ [c]).length = w.length + 1 := by rw [List.length_append, hpl]; rfl
                          have hm1 : List.map wd p ++ [AV.int .u32 (c : Int)] = List.map wd (p ++ [c]) := by rw [List.map_append]; rfl
                          clear hvp htl step
                          simp (maxSteps := 4000000) (disch := omega) only [go_sem, ↓reduceIte, Nat.reduceAdd, Nat.reduceSub, Nat.reduceMul, Nat.reduceEqDiff, reduceCtorEq, Int.reduceAdd, Int.reduceLT, Int.reduceLE, Int.reduceToNat, Int.reduceNeg, Int.reduceSub, ← List.map_take, ← List.map_drop, wrap64, wrapu64, wrapu32, ← Int.natCast_add, ← Int.natCast_mul, cast_succ, wrapu32_nat, shr32, reps_wd, map_set_wd, List.length_set, zs_len, hG, h0, hpl, f3, reps, fillAll, appendEff, srcCells, List.headD, hm1]
                          exact ⟨k - (i2 - i), by omega, i2, .ref (nx + 1) 0 (w.length + 1), p ++ [c], by refine garb ?_; rfl, by omega, .inr ⟨by omega, nx + 1, by omega, by omega, by rw [f4], upd_same⟩, f2, by omega, by omega, hgd, f1⟩
                    · simp (maxSteps := 4000000) (disch := omega) only [go_sem, ↓reduceIte, Nat.reduceAdd, Nat.reduceSub, Nat.reduceMul, Nat.reduceEqDiff, reduceCtorEq, Int.reduceAdd, Int.reduceLT, Int.reduceLE, Int.reduceToNat, Int.reduceNeg, Int.reduceSub, ← List.map_take, ← List.map_drop, wrap64, wrapu64, wrapu32, ← Int.natCast_add, ← Int.natCast_mul, cast_succ, wrapu32_nat, shr32, reps_wd, map_set_wd, List.length_set, zs_len, bstr_size]
                      refine W_loopS (fun k3 sl H nx => ∃ (i3 c : Nat) (p : List Nat), (∃ g : Nat → AV, sl = [.str (bstr l), g 1, .ptr 0 0, .bool false, .bool neg, .str (bstr d), .ref id 0 w.length, .int .i64 i2, .int .u64 B, .int .u64 c, g 10, .int .i64 i3, g 12, g 13, g 14, g 15, g 16, g 17, g 18, g 19, g 20, g 21, g 22, g 23, g 24, g 25, g 26, g 27, g 28, g 29, g 30, g 31, g 32, g 33, g 34, g 35, g 36, g 37, g 38, g 39, g 40, g 41, g 42, g 43, g 44, g 45, g 46, g 47, g 48, g 49, g 50, g 51, g 52, g 53, g 54, g 55, g 56, g 57, g 58, g 59, g 60, g 61, g 62, g 63, g 64, g 65, g 66, g 67, g 68, g 69, g 70, g 71, g 72, g 73, g 74, g 75, g 76, g 77, g 78, g 79, g 80, g 81, g 82, g 83, g 84, g 85, g 86, g 87, g 88, g 89, g 90, g 91, g 92, g 93, g 94, g 95, g 96, g 97, g 98, g 99, g 100, g 101, g 102, g 103, g 104, g 105, g 106, g 107, g 108, g 109, g 110, g 111, g 112, g 113, g 114, g 115]) ∧ id < nx ∧ H 0 = some ⟨[.bool false, .lst true []], true, 2, false⟩ ∧
                        H id = some ⟨p.map wd, false, 1, false⟩ ∧ p.length = w.length ∧ InR p ∧ c < B ∧ i3 + k3 = w.length ∧ Hd (vp p i3 + c * BB ^ i3 = part + B * vp w i3) ∧ Hd (∀ t, i3 ≤ t → p.getD t 0 = w.getD t 0)) w.length
                        ⟨0, part, w, by refine garb ?_; rfl, hid, h0, hG, rfl, hw, hpart, by omega, ⟨by show 0 + part * 1 = part + B * 0; omega⟩, ⟨fun _ _ => rfl⟩⟩ ?_
                      clear h0 hG
                      rintro k3 _ H nx ⟨i3, c, p, ⟨g, rfl⟩, hid, h0, hG, hpl, hpr, hcB, hik3, hvp, htl⟩
                      by_cases hi3 : i3 < w.length
                      · obtain ⟨x, hxx⟩ : ∃ x, x = p.getD i3 0 := ⟨_, rfl⟩
                        have hx4 : x < 4294967296 := by rw [hxx]; exact hpr.get i3
                        obtain ⟨s, hs⟩ : ∃ s, s = c + B * x := ⟨_, rfl⟩
                        obtain ⟨b1, b2, b3⟩ := mulw_bound hBs hx4 hcB hs
                        have hv2 := mulw_step (p := p) (w := w) (i := i3) (c := c) (B := B) (part := part) (s := s) (by omega) hvp.out (by rw [hs, hxx, htl.out i3 (Nat.le_refl _)])
                        have ht2 : ∀ t, i3 + 1 ≤ t → (p.set i3 (s % BB)).getD t 0 = w.getD t 0 := fun t ht => by rw [lget_set_ne (by omega)]; exact htl.out t (by omega)
                        replace hv2 := Hd.mk hv2
                        replace ht2 := Hd.mk ht2
                        have hr2 : InR (p.set i3 (s % BB)) := hpr.set (Nat.mod_lt _ (by decide))
                        clear hvp htl step hgd hpr
                        simp (maxSteps := 4000000) (disch := omega) only [go_sem, ↓reduceIte, Nat.reduceAdd, Nat.reduceSub, Nat.reduceMul, Nat.reduceEqDiff, reduceCtorEq, Int.reduceAdd, Int.reduceLT, Int.reduceLE, Int.reduceToNat, Int.reduceNeg, Int.reduceSub, ← List.map_take, ← List.map_drop, wrap64, wrapu64, wrapu32, ← Int.natCast_add, ← Int.natCast_mul, cast_succ, wrapu32_nat, shr32, reps_wd, map_set_wd, List.length_set, zs_len, hG, h0, hpl, ← hxx, and_low, ← hs, Nat.mod_mod]
                        exact ⟨k3 - 1, by omega, i3 + 1, s / 4294967296, p.set i3 (s % BB), by refine garb ?_; rfl, hid, rfl, by rw [List.length_set, hpl], hr2, b3, by omega, hv2, ht2⟩
                      · obtain rfl : i3 = w.length := by omega
                        by_cases hc0 : c = 0
                        · have f1 := step.out p (mulw_fin0 hpl hc0 hvp.out)
                          clear hvp htl step
                          simp (maxSteps := 4000000) (disch := omega) only [go_sem, ↓reduceIte, Nat.reduceAdd, Nat.reduceSub, Nat.reduceMul, Nat.reduceEqDiff, reduceCtorEq, Int.reduceAdd, Int.reduceLT, Int.reduceLE, Int.reduceToNat, Int.reduceNeg, Int.reduceSub, ← List.map_take, ← List.map_drop, wrap64, wrapu64, wrapu32, ← Int.natCast_add, ← Int.natCast_mul, cast_succ, wrapu32_nat, shr32, reps_wd, map_set_wd, List.length_set, zs_len, hG, h0]
                          exact ⟨k - (i2 - i), by omega, i2, .ref id 0 w.length, p, by refine garb ?_; rfl, by omega, .inr ⟨by omega, id, hid0, hid, by rw [hpl], hG⟩, hpr, by omega, by omega, hgd, f1⟩
                        · have f1 := step.out (p ++ [c]) (mulw_fin hpl hvp.out)
                          have hcs : c < 4294967296 := by omega
                          have f2 := inR_snoc hpr hcs
                          have f3 : c % 4294967296 = c := Nat.mod_eq_of_lt hcs
                          have f4 : (p ++ [c]).length = w.length + 1 := by rw [List.length_append, hpl]; rfl
                          have hm1 : List.map wd p ++ [AV.int .u32 (c : Int)] = List.map wd (p ++ [c]) := by rw [List.map_append]; rfl
                          clear hvp htl step
                          simp (maxSteps := 4000000) (disch := omega) only [go_sem, ↓reduceIte, Nat.reduceAdd, Nat.reduceSub, Nat.reduceMul, Nat.reduceEqDiff, reduceCtorEq, Int.reduceAdd, Int.reduceLT, Int.reduceLE, Int.reduceToNat, Int.reduceNeg, Int.reduceSub, ← List.map_take, ← List.map_drop, wrap64, wrapu64, wrapu32, ← Int.natCast_add, ← Int.natCast_mul, cast_succ, wrapu32_nat, shr32, reps_wd, map_set_wd, List.length_set, zs_len, hG, h0, hpl, f3, reps, fillAll, appendEff, srcCells, List.headD, hm1]
                          exact ⟨k - (i2 - i), by omega, i2, .ref (nx + 1) 0 (w.length + 1), p ++ [c], by refine garb ?_; rfl, by omega, .inr ⟨by omega, nx + 1, by omega, by omega, by rw [f4], upd_same⟩, f2, by omega, by omega, hgd, f1⟩
              · obtain rfl : i = d.length := by omega
                have htk : d.take d.length = d := List.take_length
                have hN2 := hN.out
                rw [htk] at hN2
                have hg : ok = true := hok.out true ⟨fun _ => rfl, fun _ => good_of hgd.out⟩
                rw [hg, ← hN2]
                clear hok hgd hN hN2
                rcases hG with ⟨rfl, rfl⟩ | ⟨hwp, id, hid0, hid, rfl, hG⟩
                · have hmk := rMake_z (neg := neg) (nl := true) (w := []) (z := sg neg (val [])) hw (by simp) rfl
                  simp only [RM, I, List.map_nil] at hmk
                  simp (maxSteps := 4000000) (disch := omega) only [go_sem, ↓reduceIte, Nat.reduceAdd, Nat.reduceSub, Nat.reduceMul, Nat.reduceEqDiff, reduceCtorEq, Int.reduceAdd, Int.reduceLT, Int.reduceLE, Int.reduceToNat, Int.reduceNeg, Int.reduceSub, ← List.map_take, ← List.map_drop, wrap64, wrapu64, wrapu32, ← Int.natCast_add, ← Int.natCast_mul, cast_succ, wrapu32_nat, shr32, reps_wd, map_set_wd, List.length_set, zs_len, bstr_size, hmk, h0, fillAll, reps, refP, elems, places, ng_zero, dg_zero, List.map_nil]
                · have hmk := rMake_z (neg := neg) (nl := false) (w := w) (z := sg neg (val w)) hw (by omega) rfl
                  simp only [RM, I] at hmk
                  simp (maxSteps := 4000000) (disch := omega) only [go_sem, ↓reduceIte, Nat.reduceAdd, Nat.reduceSub, Nat.reduceMul, Nat.reduceEqDiff, reduceCtorEq, Int.reduceAdd, Int.reduceLT, Int.reduceLE, Int.reduceToNat, Int.reduceNeg, Int.reduceSub, ← List.map_take, ← List.map_drop, wrap64, wrapu64, wrapu32, ← Int.natCast_add, ← Int.natCast_mul, cast_succ, wrapu32_nat, shr32, reps_wd, map_set_wd, List.length_set, zs_len, bstr_size, hmk, h0, hG, fillAll, reps, places, List.take_length]
            · clear hok
              rcases hgo with h48 | ⟨h48, rfl, h1d⟩
              · simp (maxSteps := 4000000) (disch := omega) only [go_sem, ↓reduceIte, Nat.reduceAdd, Nat.reduceSub, Nat.reduceMul, Nat.reduceEqDiff, reduceCtorEq, Int.reduceAdd, Int.reduceLT, Int.reduceLE, Int.reduceToNat, Int.reduceNeg, Int.reduceSub, ← List.map_take, ← List.map_drop, wrap64, wrapu64, wrapu32, ← Int.natCast_add, ← Int.natCast_mul, cast_succ, wrapu32_nat, shr32, reps_wd, map_set_wd, List.length_set, zs_len, bstr_size, bstr_get, hu, h48, h02]
                refine garb ?_
                rfl
              · simp (maxSteps := 4000000) (disch := omega) only [go_sem, ↓reduceIte, Nat.reduceAdd, Nat.reduceSub, Nat.reduceMul, Nat.reduceEqDiff, reduceCtorEq, Int.reduceAdd, Int.reduceLT, Int.reduceLE, Int.reduceToNat, Int.reduceNeg, Int.reduceSub, ← List.map_take, ← List.map_drop, wrap64, wrapu64, wrapu32, ← Int.natCast_add, ← Int.natCast_mul, cast_succ, wrapu32_nat, shr32, reps_wd, map_set_wd, List.length_set, zs_len, bstr_size, bstr_get, hu, h48, h02]
                refine garb ?_
                rfl
    · cases hp : pneg l with
      | true =>
        have hpos : 0 < l.length := by
          have : l.getD 0 0 = 45 := of_decide_eq_true hp
          cases l with
          | nil => simp at this
          | cons => simp
        have hd : pbody l = l.drop 1 := by rw [pbody, hp, if_pos rfl]
        have hx := bstr_drop1 (l := l) (by omega)
        rw [hd]
        simp (maxSteps := 4000000) (disch := omega) only [go_sem, ↓reduceIte, Nat.reduceAdd, Nat.reduceSub, Nat.reduceMul, Nat.reduceEqDiff, reduceCtorEq, Int.reduceAdd, Int.reduceLT, Int.reduceLE, Int.reduceToNat, Int.reduceNeg, Int.reduceSub, ← List.map_take, ← List.map_drop, wrap64, wrapu64, wrapu32, ← Int.natCast_add, ← Int.natCast_mul, cast_succ, wrapu32_nat, shr32, reps_wd, map_set_wd, List.length_set, zs_len, bstr_size, cutBounds, hx, h0]
        refine garb ?_
        rfl
      | false =>
        have hd : pbody l = l := by rw [pbody, hp]; rfl
        rw [hd]
        simp (maxSteps := 4000000) (disch := omega) only [go_sem, ↓reduceIte, Nat.reduceAdd, Nat.reduceSub, Nat.reduceMul, Nat.reduceEqDiff, reduceCtorEq, Int.reduceAdd, Int.reduceLT, Int.reduceLE, Int.reduceToNat, Int.reduceNeg, Int.reduceSub, ← List.map_take, ← List.map_drop, wrap64, wrapu64, wrapu32, ← Int.natCast_add, ← Int.natCast_mul, cast_succ, wrapu32_nat, shr32, reps_wd, map_set_wd, List.length_set, zs_len, h0]
        refine garb ?_
        rfl
  · by_cases hn : l = []
    · subst hn
      simp (maxSteps := 4000000) (disch := omega) only [go_sem, ↓reduceIte, Nat.reduceAdd, Nat.reduceSub, Nat.reduceMul, Nat.reduceEqDiff, reduceCtorEq, Int.reduceAdd, Int.reduceLT, Int.reduceLE, Int.reduceToNat, Int.reduceNeg, Int.reduceSub, ← List.map_take, ← List.map_drop, wrap64, wrapu64, wrapu32, ← Int.natCast_add, ← Int.natCast_mul, cast_succ, wrapu32_nat, shr32, reps_wd, map_set_wd, List.length_set, zs_len, bstr_size]
      refine garb ?_
      rfl
    · have hpos : 0 < l.length := List.length_pos_iff.2 hn
      cases hp : pneg l with
      | true =>
        have h45 : ((UInt8.ofNat (l.getD 0 0)).toNat : Int) = 45 := by rw [show l.getD 0 0 = 45 from of_decide_eq_true hp]; rfl
        simp (maxSteps := 4000000) (disch := omega) only [go_sem, ↓reduceIte, Nat.reduceAdd, Nat.reduceSub, Nat.reduceMul, Nat.reduceEqDiff, reduceCtorEq, Int.reduceAdd, Int.reduceLT, Int.reduceLE, Int.reduceToNat, Int.reduceNeg, Int.reduceSub, ← List.map_take, ← List.map_drop, wrap64, wrapu64, wrapu32, ← Int.natCast_add, ← Int.natCast_mul, cast_succ, wrapu32_nat, shr32, reps_wd, map_set_wd, List.length_set, zs_len, bstr_size, bstr_get, h45]
        refine garb ?_
        rfl
      | false =>
        have h45 : ¬ ((l.getD 0 0 : Nat) : Int) = 45 := by have : l.getD 0 0 ≠ 45 := of_decide_eq_false hp; omega
        simp (maxSteps := 4000000) (disch := omega) only [go_sem, ↓reduceIte, Nat.reduceAdd, Nat.reduceSub, Nat.reduceMul, Nat.reduceEqDiff, reduceCtorEq, Int.reduceAdd, Int.reduceLT, Int.reduceLE, Int.reduceToNat, Int.reduceNeg, Int.reduceSub, ← List.map_take, ← List.map_drop, wrap64, wrapu64, wrapu32, ← Int.natCast_add, ← Int.natCast_mul, cast_succ, wrapu32_nat, shr32, reps_wd, map_set_wd, List.length_set, zs_len, bstr_size, bstr_get, hu, h45]
        refine garb ?_
        rfl
end Go.Proofs.Ytpfcijgcjghgeaa
