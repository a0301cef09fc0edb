/- Part 4 of a proof about this seat: Rgt, Dot, Hol, Ho2, Ho3, Ker. (Own work of this repo.) -/
import Derived.Test.YtnpomadbaanpkaaZLinearAll3
set_option linter.unusedVariables false
set_option linter.unusedSimpArgs false
/- Walks: what the program takes for a system. (Own work of this repo.) -/
namespace Go.Proofs.Ytnpomadbaanpkaa
open Vm
set_option maxRecDepth 10000

def MM (A : Mat) (B : List Raw) (i : Nat) : List Raw := B ++ (A.take i).flatMap (·.2)
theorem MM_zero (A : Mat) (B : List Raw) : MM A B 0 = B := by simp [MM]
theorem MM_succ {A : Mat} {B : List Raw} {i : Nat} (h : i < A.length) : MM A B (i + 1) = MM A B i ++ (A.getD i default).2 := by
  unfold MM; rw [take_getD h, List.flatMap_append]; simp
theorem MM_len {A : Mat} {B : List Raw} {w : Nat} : ∀ i, i ≤ A.length → (∀ j, j < i → (A.getD j default).2.length = w) → (MM A B i).length = B.length + i * w
  | 0, _, _ => by rw [MM_zero]; omega
  | i + 1, h, h1 => by rw [MM_succ (by omega), List.length_append, MM_len i (by omega) (fun j hj => h1 j (by omega)), h1 i (by omega), Nat.succ_mul]; omega
theorem MM_all (A : Mat) (B : List Raw) : (MM A B A.length).all okB = (B.all okB && A.all fun r => r.2.all okB) := by
  unfold MM; rw [List.take_length, List.all_append, List.all_flatMap]

set_option maxHeartbeats 2000000 in
theorem sys_spec (nl : Bool) (A : Mat) (nb : Bool) (B : List Raw) (hA : ShortM A) (hB : Short B) (iA : InM A) (iB : ∀ q ∈ B, InR q.2.2) : denP E 27 [mraw nl A, lraw nb B] = some (.ret (.bool (sysB A B))) := by
  refine denP_eq E27 rfl (by simp [AV.pureL, AV.pure, pure_lr, pure_ivr]) ?_
  have hL := hA.1
  have hLB := hB.1
  by_cases h1 : A.length < 1
  · have z1 : ((A.length : Int) < 1) = True := eq_true (by omega)
    have hv : sysB A B = false := by unfold sysB; rw [decide_eq_false (by omega)]; simp
    simp (maxSteps := 4000000) only [go_sem, seval, ↓reduceIte, reduceCtorEq, Try.f27, z1, hv]
  have z1 : ((A.length : Int) < 1) = False := eq_false (by omega)
  by_cases h2 : 8 < A.length
  · have z2 : ((8 : Int) < (A.length : Int)) = True := eq_true (by omega)
    have hv : sysB A B = false := by unfold sysB; rw [decide_eq_false (by omega)]; simp
    simp (maxSteps := 4000000) only [go_sem, seval, ↓reduceIte, reduceCtorEq, Try.f27, z1, z2, hv]
  have z2 : ((8 : Int) < (A.length : Int)) = False := eq_false (by omega)
  by_cases h3 : B.length = A.length
  rotate_left
  · have z3 : ((B.length : Int) = (A.length : Int)) = False := eq_false (by omega)
    have hv : sysB A B = false := by unfold sysB; rw [decide_eq_false (by omega)]; simp
    simp (maxSteps := 4000000) only [go_sem, seval, ↓reduceIte, reduceCtorEq, Try.f27, z1, z2, z3, hv]
  have z3 : ((B.length : Int) = (A.length : Int)) = True := eq_true (by omega)
  have hg0 := get_lr (A := A) (i := 0) (by omega)
  have z00 : ((0 : Int) < (A.length : Int)) = True := eq_true (by omega)
  have hml : (A.map lr).length = A.length := List.length_map _
  obtain ⟨w, hw⟩ : ∃ w, w = (A.getD 0 default).2.length := ⟨_, rfl⟩
  have hwl := (hA.get 0).1
  rw [← hw] at hwl
  have hml0 : ((A.getD 0 default).2.map ivr).length = w := by rw [List.length_map, hw]
  have hw0 : ((A.getD 0 default).2.length : Int) = (w : Int) := by rw [hw]
  have hrow0 : rowB w (A.getD 0 default) = false → sysB A B = false := fun h => by unfold sysB; rw [← hw, allM_not (i := 0) (by omega) h]; simp
  by_cases h4 : w < 1
  · have z4 : ((w : Int) < 1) = True := eq_true (by omega)
    have hv := hrow0 (by unfold rowB; rw [decide_eq_false (by omega)]; rfl)
    simp (maxSteps := 4000000) only [go_sem, seval, ↓reduceIte, reduceCtorEq, Try.f27, z1, z2, z3, z4, hg0, hml, z00, hml0, hw0, Int.toNat_zero, hv]
  have z4 : ((w : Int) < 1) = False := eq_false (by omega)
  by_cases h5 : 8 < w
  · have z5 : ((8 : Int) < (w : Int)) = True := eq_true (by omega)
    have hv := hrow0 (by unfold rowB; rw [decide_eq_false (by omega)]; rfl)
    simp (maxSteps := 4000000) only [go_sem, seval, ↓reduceIte, reduceCtorEq, Try.f27, z1, z2, z3, z4, z5, hg0, hml, z00, hml0, hw0, Int.toNat_zero, hv]
  have z5 : ((8 : Int) < (w : Int)) = False := eq_false (by omega)
  clear hrow0
  have zb : (B.length = 0) = False := eq_false (by omega)
  have hbl : (B.map ivr).length = B.length := List.length_map _
  have hmem : ((2 * B.length + 1000) * 32 ≤ 281474976710656) = True := eq_true (by omega)
  have hfl := fr_len B
  have hfl2 : ((fr B).length = B.length * 2) = True := eq_true hfl
  simp (maxSteps := 4000000) only [go_sem, seval, ↓reduceIte, reduceCtorEq, Try.f27, z1, z2, z3, z4, z5, hg0, hml, z00, hml0, hw0, Int.toNat_zero, reps, places, fillAll, zb, hbl, hmem, hfl, flat_fr, appendEff, srcCells]
  clear hmem hfl hfl2 zb hbl
  refine W_loopS (fun k sl h nx => ∃ i c : Nat, (∃ g : Nat → AV, sl = [mraw nl A, g 1, g 2, g 3, g 4, .ref c 0 (MM A B i).length, g 6, g 7, g 8, g 9, g 10, g 11, g 12, g 13, g 14, g 15, g 16, g 17, g 18, g 19, g 20, g 21, g 22, g 23, g 24, g 25, g 26, g 27, g 28, g 29, g 30, g 31, g 32, g 33, g 34, g 35, g 36, g 37, g 38, g 39, g 40, g 41, mraw nl A, .int .i64 (A.length : Int), .int .i64 i, g 45, g 46, g 47, g 48, g 49, g 50, g 51, g 52, g 53, g 54, g 55, g 56, g 57, g 58, g 59, g 60, g 61, g 62, g 63, g 64, g 65, g 66, g 67, g 68, g 69, g 70, g 71, g 72, g 73]) ∧ i + k = A.length ∧ h c = some ⟨fr (MM A B i), true, 2, false⟩ ∧ c < nx ∧ ∀ j, j < i → (A.getD j default).2.length = w) A.length ⟨0, 1, ?_, by omega, ?_, Nat.le_refl _, by omega⟩ ?_
  · rw [MM_zero]
    refine garb ?_
    rfl
  · rw [MM_zero]; simp only [upd_apply, ↓reduceIte, Nat.reduceEqDiff, if_pos]
  rintro k _ h nx ⟨i, c, ⟨g, rfl⟩, hk, hc, hcn, hlens⟩
  have hMl := MM_len (B := B) i (by omega) hlens
  have hiw : i * w ≤ 8 * 8 := Nat.mul_le_mul (by omega) (by omega)
  by_cases hi : i = A.length
  · have z6 : ((i : Int) < (A.length : Int)) = False := eq_false (by omega)
    have hv : sysB A B = (MM A B i).all okB := by
      unfold sysB
      rw [hi, MM_all, ← hw, decide_eq_true (by omega), Bool.true_and]
      congr 1
      rw [Bool.eq_iff_iff, List.all_eq_true, List.all_eq_true]
      constructor
      · intro h r hr
        have := h r hr
        unfold rowB at this
        rw [Bool.and_eq_true] at this
        exact this.2
      · intro h r hr
        unfold rowB
        obtain ⟨j, hj, rfl⟩ := List.getElem_of_mem hr
        have hl := hlens j (by omega)
        rw [List.getD_eq_getElem?_getD, List.getElem?_eq_getElem hj] at hl
        rw [h _ hr, decide_eq_true (by exact ⟨by rw [show (A[j]).2.length = w from hl]; omega, by rw [show (A[j]).2.length = w from hl]; omega, hl⟩)]
        rfl
    have hSM : ∀ j, ((MM A B i).getD j default).2.2.length < 9223372036854775808 ∧ InR ((MM A B i).getD j default).2.2 := by
      intro j
      rcases Nat.lt_or_ge j (MM A B i).length with hj | hj
      · have hm : (MM A B i).getD j default ∈ MM A B i := by rw [List.getD_eq_getElem?_getD, List.getElem?_eq_getElem hj]; exact List.getElem_mem _
        generalize (MM A B i).getD j default = q at *
        unfold MM at hm
        rcases List.mem_append.1 hm with hm | hm
        · exact ⟨hB.2 q hm, iB q hm⟩
        · obtain ⟨r, hr, hq⟩ := List.mem_flatMap.1 hm
          have hr' := List.mem_of_mem_take hr
          exact ⟨(hA.2 r hr').2 q hq, iA r hr' q hq⟩
      · rw [List.getD_eq_getElem?_getD, List.getElem?_eq_none hj]
        exact ⟨by show [].length < _; decide, fun x hx => by cases hx⟩
    have hMlt : (MM A B i).length < 1000 := by omega
    rw [hv]
    generalize MM A B i = M at *
    clear hv hMl hlens hg0 hml0 hw0
    simp (maxSteps := 4000000) only [go_sem, seval, ↓reduceIte, reduceCtorEq, z6, hc]
    refine W_loopS (fun k sl h nx => ∃ t : Nat, (∃ g : Nat → AV, sl = [g 0, g 1, g 2, g 3, g 4, g 5, g 6, g 7, g 8, g 9, g 10, g 11, g 12, g 13, g 14, g 15, g 16, g 17, g 18, g 19, g 20, g 21, g 22, g 23, g 24, g 25, g 26, g 27, g 28, g 29, g 30, g 31, g 32, g 33, g 34, g 35, g 36, g 37, g 38, g 39, g 40, g 41, g 42, g 43, g 44, g 45, g 46, g 47, g 48, g 49, g 50, g 51, g 52, g 53, g 54, g 55, g 56, g 57, g 58, .ref c 0 M.length, .int .i64 (M.length : Int), .int .i64 t, g 62, g 63, g 64, g 65, g 66, g 67, g 68, g 69, g 70, g 71, g 72, g 73]) ∧ t + k = M.length ∧ h c = some ⟨fr M, true, 2, false⟩ ∧ c < nx ∧ ∀ j, j < t → okB (M.getD j default) = true) M.length ⟨0, ?_, by omega, hc, hcn, by omega⟩ ?_
    · refine garb ?_
      rfl
    clear hc hcn
    rintro k2 _ h nx ⟨t, ⟨g, rfl⟩, hk2, hc, hcn, hall⟩
    by_cases ht : t = M.length
    · have z7 : ((t : Int) < (M.length : Int)) = False := eq_false (by omega)
      have hv : M.all okB = true := all_upto fun j hj => hall j (by omega)
      simp (maxSteps := 4000000) only [go_sem, seval, ↓reduceIte, reduceCtorEq, z7, hv]
    · have z7 : ((t : Int) < (M.length : Int)) = True := eq_true (by omega)
      have z0 : ((0 : Int) ≤ (t : Int)) = True := eq_true (by omega)
      have w1 : IntKind.i64.wrap ((t + 1 : Nat) : Int) = ((t + 1 : Nat) : Int) := wrap64 (by omega) (by omega)
      have hg := fr_get (L := M) (i := t) (by omega)
      have hin : (t * 2 + 2 ≤ (fr M).length) = True := eq_true (by rw [fr_len]; omega)
      have hno : okB (M.getD t default) = false → M.all okB = false := all_not (by omega)
      have hq := hSM t
      have x1 : (c = nx) = False := eq_false (by omega)
      have x2 : (nx = c) = False := eq_false (by omega)
      have hyes : okB (M.getD t default) = true → ∀ j, j < t + 1 → okB (M.getD j default) = true := fun h j hj => by
        by_cases e : j = t
        · rw [e]; exact h
        · exact hall j (by omega)
      generalize M.getD t default = q at *
      obtain ⟨neg, nlq, l⟩ := q
      dsimp only at hg hq
      have v1 := validAny neg nlq l hq.1
      simp only [iv] at v1
      cases h3 : rvalidW neg l with
      | false =>
        rw [h3] at v1
        have hv := hno (by show (rvalidW neg l && decide (bl (val l) ≤ 200)) = false; rw [h3, Bool.false_and])
        simp (maxSteps := 4000000) only [go_sem, seval, ↓reduceIte, reduceCtorEq, z7, z0, hc, hg, hin, x1, x2, v1, hv]
      | true =>
        rw [h3] at v1
        obtain ⟨kl, z, sz, dz⟩ := rvalid_norm (neg := neg) hq.2 h3
        have v2 := bits_spec nlq z (by rw [dz]; omega)
        simp only [I, sz, dz] at v2
        have hval : val l = z.natAbs := by rw [← dz, val_dg]
        by_cases h4 : bl z.natAbs ≤ 200
        · have z8 : ((200 : Int) < (bl z.natAbs : Int)) = False := eq_false (by omega)
          have hv := hyes (by show (rvalidW neg l && decide (bl (val l) ≤ 200)) = true; rw [h3, hval, decide_eq_true h4]; rfl)
          simp (maxSteps := 4000000) only [go_sem, seval, ↓reduceIte, reduceCtorEq, z7, z0, hc, hg, hin, x1, x2, v1, v2, z8, w1]
          refine ⟨k2 - 1, by omega, t + 1, ?_, by omega, by omega, hv⟩
          refine garb ?_
          rfl
        · have z8 : ((200 : Int) < (bl z.natAbs : Int)) = True := eq_true (by omega)
          have hv := hno (by show (rvalidW neg l && decide (bl (val l) ≤ 200)) = false; rw [hval, decide_eq_false h4, Bool.and_false])
          simp (maxSteps := 4000000) only [go_sem, seval, ↓reduceIte, reduceCtorEq, z7, z0, hc, hg, hin, x1, x2, v1, v2, z8, hv]
  · have z6 : ((i : Int) < (A.length : Int)) = True := eq_true (by omega)
    have z0 : ((0 : Int) ≤ (i : Int)) = True := eq_true (by omega)
    have w1 : IntKind.i64.wrap ((i + 1 : Nat) : Int) = ((i + 1 : Nat) : Int) := wrap64 (by omega) (by omega)
    have hg := get_lr (A := A) (i := i) (by omega)
    have hsu := MM_succ (B := B) (show i < A.length by omega)
    have hS := hA.get i
    have hSl := hS.1
    by_cases hlen : (A.getD i default).2.length = w
    · have hsub := hlens
      have hlens' : ∀ j, j < i + 1 → (A.getD j default).2.length = w := fun j hj => by
        by_cases e : j = i
        · rw [e]; exact hlen
        · exact hlens j (by omega)
      have hMlt : (MM A B i).length ≤ 72 := by omega
      have hfl := fr_len (MM A B i)
      have hmr : ((A.getD i default).2.map ivr).length = w := by rw [List.length_map, hlen]
      have hflr : (fr (A.getD i default).2).length = w * 2 := by rw [fr_len, hlen]
      have zl : (((A.getD i default).2.length : Int) = (w : Int)) = True := eq_true (by omega)
      have zw : (w = 0) = False := eq_false (by omega)
      have hmem : ((2 * ((MM A B i).length + w) + 1000) * 32 ≤ 281474976710656) = True := eq_true (by omega)
      have hl2 : (MM A B (i + 1)).length = (MM A B i).length + w := by rw [hsu, List.length_append, hlen]
      have hf2 : fr (MM A B (i + 1)) = fr (MM A B i) ++ fr (A.getD i default).2 := by rw [hsu, fr_app]
      have x1 : (c = nx) = False := eq_false (by omega)
      have x2 : (nx = c) = False := eq_false (by omega)
      have hfin : ∀ (h' : Heap) (n' : Nat) (sl : List AV), (∃ g : Nat → AV, sl = [mraw nl A, g 1, g 2, g 3, g 4, .ref nx 0 ((MM A B i).length + w), g 6, g 7, g 8, g 9, g 10, g 11, g 12, g 13, g 14, g 15, g 16, g 17, g 18, g 19, g 20, g 21, g 22, g 23, g 24, g 25, g 26, g 27, g 28, g 29, g 30, g 31, g 32, g 33, g 34, g 35, g 36, g 37, g 38, g 39, g 40, g 41, mraw nl A, .int .i64 (A.length : Int), .int .i64 ((i + 1 : Nat) : Int), g 45, g 46, g 47, g 48, g 49, g 50, g 51, g 52, g 53, g 54, g 55, g 56, g 57, g 58, g 59, g 60, g 61, g 62, g 63, g 64, g 65, g 66, g 67, g 68, g 69, g 70, g 71, g 72, g 73]) → h' nx = some ⟨fr (MM A B i) ++ fr (A.getD i default).2, true, 2, false⟩ → nx < n' →
          ∃ k', k' < k ∧ ∃ i c : Nat, (∃ g : Nat → AV, sl = [mraw nl A, g 1, g 2, g 3, g 4, .ref c 0 (MM A B i).length, g 6, g 7, g 8, g 9, g 10, g 11, g 12, g 13, g 14, g 15, g 16, g 17, g 18, g 19, g 20, g 21, g 22, g 23, g 24, g 25, g 26, g 27, g 28, g 29, g 30, g 31, g 32, g 33, g 34, g 35, g 36, g 37, g 38, g 39, g 40, g 41, mraw nl A, .int .i64 (A.length : Int), .int .i64 i, g 45, g 46, g 47, g 48, g 49, g 50, g 51, g 52, g 53, g 54, g 55, g 56, g 57, g 58, g 59, g 60, g 61, g 62, g 63, g 64, g 65, g 66, g 67, g 68, g 69, g 70, g 71, g 72, g 73]) ∧ i + k' = A.length ∧ h' c = some ⟨fr (MM A B i), true, 2, false⟩ ∧ c < n' ∧ ∀ j, j < i → (A.getD j default).2.length = w := fun h' n' sl a0 a1 a2 => ⟨k - 1, by omega, i + 1, nx, by rw [hl2]; exact a0, by omega, by rw [hf2]; exact a1, a2, hlens'⟩
      generalize hIQ : (fun (k : Nat) (σ : St) => ∃ i c : Nat, (∃ g : Nat → AV, σ.sl = [mraw nl A, g 1, g 2, g 3, g 4, .ref c 0 (MM A B i).length, g 6, g 7, g 8, g 9, g 10, g 11, g 12, g 13, g 14, g 15, g 16, g 17, g 18, g 19, g 20, g 21, g 22, g 23, g 24, g 25, g 26, g 27, g 28, g 29, g 30, g 31, g 32, g 33, g 34, g 35, g 36, g 37, g 38, g 39, g 40, g 41, mraw nl A, .int .i64 (A.length : Int), .int .i64 i, g 45, g 46, g 47, g 48, g 49, g 50, g 51, g 52, g 53, g 54, g 55, g 56, g 57, g 58, g 59, g 60, g 61, g 62, g 63, g 64, g 65, g 66, g 67, g 68, g 69, g 70, g 71, g 72, g 73]) ∧ i + k = A.length ∧ σ.h c = some ⟨fr (MM A B i), true, 2, false⟩ ∧ c < σ.nx ∧ ∀ j, j < i → (A.getD j default).2.length = w) = IQ
      clear hlens hlens' hsub hsu hl2 hf2 hMl
      generalize MM A B i = M at *
      generalize A.getD i default = R at *
      generalize A.getD 0 default = R0 at *
      simp (maxSteps := 4000000) only [go_sem, seval, ↓reduceIte, reduceCtorEq, z6, z0, hg, hg0, hml, hml0, hw0, z00, Int.toNat_zero, zl, hc, hfl, hmr, hflr, zw, hmem, flat_fr, appendEff, srcCells, x1, x2, w1]
      rw [← hIQ]
      refine hfin _ _ _ ?_ ?_ ?_
      · refine garb ?_
        rfl
      · simp only [upd_apply, ↓reduceIte, Nat.reduceEqDiff, if_pos]
      · dsimp only; omega
    · have zl : (((A.getD i default).2.length : Int) = (w : Int)) = False := eq_false (by omega)
      have hv : sysB A B = false := by
        unfold sysB
        rw [← hw, allM_not (i := i) (by omega) (by unfold rowB; rw [decide_eq_false (by omega)]; rfl), Bool.and_false]
      have hmr : ((A.getD i default).2.map ivr).length = (A.getD i default).2.length := by rw [List.length_map]
      generalize A.getD i default = R at *
      generalize A.getD 0 default = R0 at *
      simp (maxSteps := 4000000) only [go_sem, seval, ↓reduceIte, reduceCtorEq, z6, z0, hg, hg0, hml, hml0, hw0, z00, Int.toNat_zero, zl, hv]
end Go.Proofs.Ytnpomadbaanpkaa

/- Walks: sums of products. (Own work of this repo.) -/
namespace Go.Proofs.Ytnpomadbaanpkaa
open Vm
set_option maxRecDepth 10000

/-- The number of a raw one. -/
def zv (q : Raw) : Int := sg q.1 (val q.2.2)
theorem zv_spec {q : Raw} (hr : InR q.2.2) (h : okV q = true) : ivr q = I q.2.1 (zv q) ∧ (dg (zv q)).length = q.2.2.length ∧ q.2.2.length ≤ 4096 ∧ ng (zv q) = q.1 ∧ dg (zv q) = q.2.2 := by
  obtain ⟨h1, z, h2, h3⟩ := rvalid_norm hr h
  have e : zv q = z := by
    unfold zv
    rw [← h2, ← h3, val_dg]
    exact sg_ng z
  rw [e]
  exact ⟨by rw [I, h2, h3], by rw [h3], h1, h2, h3⟩
def dz (a b : Nat → Int) : Nat → Int
  | 0 => 0
  | n + 1 => dz a b n + a n * b n
/-- Entry i of a list. -/
def zg (L : List Raw) (i : Nat) : Int := zv (L.getD i default)
def AllV (L : List Raw) : Prop := ∀ q ∈ L, InR q.2.2 ∧ okV q = true
theorem AllV.get {L : List Raw} (h : AllV L) {i : Nat} (hi : i < L.length) : InR (L.getD i default).2.2 ∧ okV (L.getD i default) = true := by
  rw [List.getD_eq_getElem?_getD, List.getElem?_eq_getElem hi]; exact h _ (List.getElem_mem _)
set_option maxHeartbeats 1000000 in
theorem dot_spec (na : Bool) (A : List Raw) (nb : Bool) (B : List Raw) (hA : AllV A) (hB : AllV B) (hl : A.length ≤ B.length) (hAl : A.length < 1000000)
    (hp : ∀ i, i < A.length → (dg (zg A i * zg B i)).length ≤ 4096) (hs : ∀ i, i ≤ A.length → (dg (dz (zg A) (zg B) i)).length ≤ 4096) :
    ∃ f : Bool, denP E 40 [lraw na A, lraw nb B] = some (.ret (I f (dz (zg A) (zg B) A.length))) ∧ (f = true → dz (zg A) (zg B) A.length = 0) := by
  refine denP_ex (F := fun f : Bool => I f (dz (zg A) (zg B) A.length)) E40 rfl (by simp [AV.pureL, AV.pure, pure_ivr]) ?_
  simp (maxSteps := 4000000) only [go_sem, seval, ↓reduceIte, reduceCtorEq, Try.f40, places, fillAll]
  refine W_loopS (fun k sl h nx => ∃ (i : Nat) (f : Bool), (∃ g : Nat → AV, sl = [g 0, lraw nb B, g 2, g 3, .ptr 0 0, .ptr 1 0, g 6, g 7, lraw na A, .int .i64 (A.length : Int), .int .i64 (i : Int), g 11, g 12, g 13, g 14, g 15, g 16, g 17, g 18, g 19, g 20, g 21, g 22, g 23, g 24]) ∧ i + k = A.length ∧ h 0 = some ⟨[.bool false, .lst true []], true, 2, false⟩ ∧ h 1 = some ⟨[.bool (ng (dz (zg A) (zg B) i)), .lst f ((dg (dz (zg A) (zg B) i)).map wd)], true, 2, false⟩ ∧ 2 ≤ nx ∧ (f = true → dz (zg A) (zg B) i = 0)) A.length ⟨0, true, garb rfl, by omega, ?_, ?_, Nat.le_refl _, fun _ => rfl⟩ ?_
  · simp only [upd_apply, ↓reduceIte, Nat.reduceEqDiff, if_pos]
  · rw [show dz (zg A) (zg B) 0 = 0 from rfl, ng_zero, dg_zero]; simp only [upd_apply, ↓reduceIte, Nat.reduceEqDiff, if_pos]; rfl
  rintro k _ h nx ⟨i, f, ⟨g, rfl⟩, hk, e0, e1, hnx, hff⟩
  by_cases hi : i = A.length
  · have z1 : ((i : Int) < (A.length : Int)) = False := eq_false (by omega)
    rw [hi] at e1 hff
    generalize dz (zg A) (zg B) A.length = s at *
    simp (maxSteps := 4000000) only [go_sem, seval, ↓reduceIte, reduceCtorEq, z1, e0, e1]
    exact ⟨f, rfl, hff⟩
  · have z1 : ((i : Int) < (A.length : Int)) = True := eq_true (by omega)
    have z0 : ((0 : Int) ≤ (i : Int)) = True := eq_true (by omega)
    have zb : ((i : Int) < (B.length : Int)) = True := eq_true (by omega)
    have hga := get_ivr (L := A) (i := i) (by omega)
    have hgb := get_ivr (L := B) (i := i) (by omega)
    obtain ⟨a1, a2, a3, a4, a5⟩ := zv_spec (hA.get (show i < A.length by omega)).1 (hA.get (show i < A.length by omega)).2
    obtain ⟨b1, b2, b3, b4, b5⟩ := zv_spec (hB.get (show i < B.length by omega)).1 (hB.get (show i < B.length by omega)).2
    rw [← a4, ← a5] at hga
    rw [← b4, ← b5] at hgb
    have hp := hp i (by omega)
    have hs0 := hs i (by omega)
    have hs1 := hs (i + 1) (by omega)
    have hst : dz (zg A) (zg B) (i + 1) = dz (zg A) (zg B) i + zg A i * zg B i := rfl
    have hml : (A.map ivr).length = A.length := List.length_map _
    have hmlb : (B.map ivr).length = B.length := List.length_map _
    have w1 : IntKind.i64.wrap ((i + 1 : Nat) : Int) = ((i + 1 : Nat) : Int) := wrap64 (by omega) (by omega)
    have hfin : ∀ (h' : Heap) (n' : Nat) (sl : List AV) (f' : Bool), (∃ g : Nat → AV, sl = [g 0, lraw nb B, g 2, g 3, .ptr 0 0, .ptr 1 0, g 6, g 7, lraw na A, .int .i64 (A.length : Int), .int .i64 ((i + 1 : Nat) : Int), g 11, g 12, g 13, g 14, g 15, g 16, g 17, g 18, g 19, g 20, g 21, g 22, g 23, g 24]) → h' 0 = some ⟨[.bool false, .lst true []], true, 2, false⟩ → h' 1 = some ⟨[.bool (ng (dz (zg A) (zg B) (i + 1))), .lst f' ((dg (dz (zg A) (zg B) (i + 1))).map wd)], true, 2, false⟩ → 2 ≤ n' → (f' = true → dz (zg A) (zg B) (i + 1) = 0) →
        ∃ k', k' < k ∧ ∃ (i : Nat) (f : Bool), (∃ g : Nat → AV, sl = [g 0, lraw nb B, g 2, g 3, .ptr 0 0, .ptr 1 0, g 6, g 7, lraw na A, .int .i64 (A.length : Int), .int .i64 (i : Int), g 11, g 12, g 13, g 14, g 15, g 16, g 17, g 18, g 19, g 20, g 21, g 22, g 23, g 24]) ∧ i + k' = A.length ∧ h' 0 = some ⟨[.bool false, .lst true []], true, 2, false⟩ ∧ h' 1 = some ⟨[.bool (ng (dz (zg A) (zg B) i)), .lst f ((dg (dz (zg A) (zg B) i)).map wd)], true, 2, false⟩ ∧ 2 ≤ n' ∧ (f = true → dz (zg A) (zg B) i = 0) := fun h' n' sl f' c0 c1 c2 c3 c4 => ⟨k - 1, by omega, i + 1, f', c0, by omega, c1, c2, c3, c4⟩
    generalize hIQ : (fun (k : Nat) (σ : St) => ∃ (i : Nat) (f : Bool), (∃ g : Nat → AV, σ.sl = [g 0, lraw nb B, g 2, g 3, .ptr 0 0, .ptr 1 0, g 6, g 7, lraw na A, .int .i64 (A.length : Int), .int .i64 (i : Int), g 11, g 12, g 13, g 14, g 15, g 16, g 17, g 18, g 19, g 20, g 21, g 22, g 23, g 24]) ∧ i + k = A.length ∧ σ.h 0 = some ⟨[.bool false, .lst true []], true, 2, false⟩ ∧ σ.h 1 = some ⟨[.bool (ng (dz (zg A) (zg B) i)), .lst f ((dg (dz (zg A) (zg B) i)).map wd)], true, 2, false⟩ ∧ 2 ≤ σ.nx ∧ (f = true → dz (zg A) (zg B) i = 0)) = IQ
    rw [hst] at hs1 hfin
    clear hs hst hff
    unfold zg at *
    generalize hqa : A.getD i default = qa at *
    generalize hqb : B.getD i default = qb at *
    rw [← a2] at a3
    rw [← b2] at b3
    clear a1 a2 b1 b2 a4 a5 b4 b5 hqa hqb
    generalize zv qa = x at *
    generalize zv qb = y at *
    generalize dz (fun i => zv (A.getD i default)) (fun i => zv (B.getD i default)) i = s at *
    have m1 := exMul_ret qa.2.1 qb.2.1 x y a3 b3 hp
    have s1 := exAdd_ret f (mz x y) s (x * y) hs0 hp hs1
    generalize qa.2.1 = fa at *
    generalize qb.2.1 = fb at *
    generalize mz x y = fm at *
    generalize x * y = xy at *
    generalize s + xy = s2 at *
    clear hp hs0 hs1 a3 b3
    have x0 : (nx = 0) = False := eq_false (by omega)
    have x1 : (nx = 1) = False := eq_false (by omega)
    have x2 : (0 = nx) = False := eq_false (by omega)
    have x3 : (1 = nx) = False := eq_false (by omega)
    simp (maxSteps := 4000000) only [go_sem, seval, ↓reduceIte, reduceCtorEq, z0, z1, hga, hml, x0, x1, x2, x3, e0, e1, places, fillAll]
    refine W_drawn ?_
    simp (maxSteps := 4000000) only [go_sem, seval, ↓reduceIte, reduceCtorEq, z0, zb, hgb, hmlb, x0, x1, x2, x3, e0, e1, m1, s1, places, fillAll]
    refine ⟨by refine okR_pairs ?_; (repeat ((with_unfolding_all refine And.intro ?_ ?_); (focus (rw [free_mk] <;> (try simp) <;> (try omega))))); (with_unfolding_all exact True.intro), ?_⟩
    rw [w1, ← hIQ]
    refine hfin _ _ _ false (garb rfl) ?_ ?_ (by dsimp only; omega) (fun e => by cases e)
    · simp only [upd_apply, ↓reduceIte, Nat.reduceEqDiff, e0, x2]
    · simp only [upd_apply, ↓reduceIte, Nat.reduceEqDiff, if_pos]
end Go.Proofs.Ytnpomadbaanpkaa

/- Walks: whether numbers are a solution. (Own work of this repo.) -/
namespace Go.Proofs.Ytnpomadbaanpkaa
open Vm
set_option maxRecDepth 10000

def rowz (A : Mat) (i : Nat) : Nat → Int := zg (A.getD i default).2
/-- A row times numbers. -/
def rx (A : Mat) (X : Nat → Int) (i : Nat) : Int := dz (rowz A i) X (A.getD i default).2.length
/-- A matrix of valid numbers, of so many columns. -/
def MatV (A : Mat) (w : Nat) : Prop := ∀ i, i < A.length → AllV (A.getD i default).2 ∧ (A.getD i default).2.length = w
/-- Everything fits. -/
def FitX (A : Mat) (X : Nat → Int) (w : Nat) : Prop := ∀ i, i < A.length → (∀ j, j < w → (dg (rowz A i j * X j)).length ≤ 4096) ∧ ∀ j, j ≤ w → (dg (dz (rowz A i) X j)).length ≤ 4096
def solB (A : Mat) (B X : Nat → Int) : Nat → Bool
  | 0 => true
  | i + 1 => decide (rx A X i = B i) && solB A B X i
theorem solB_iff (A : Mat) (B X : Nat → Int) : ∀ n, solB A B X n = true ↔ ∀ i, i < n → rx A X i = B i
  | 0 => by simp [solB]
  | n + 1 => by
    simp only [solB, Bool.and_eq_true, decide_eq_true_eq, solB_iff A B X n]
    constructor
    · rintro ⟨h1, h2⟩ i hi
      by_cases e : i = n
      · rw [e]; exact h1
      · exact h2 i (by omega)
    · intro h
      exact ⟨h n (by omega), fun i hi => h i (by omega)⟩
set_option maxHeartbeats 1000000 in
theorem holds_spec (na : Bool) (A : Mat) (nb : Bool) (B : List Raw) (nx' : Bool) (X : List Raw) (w : Nat) (hA : MatV A w) (hB : AllV B) (hX : AllV X) (hAl : A.length ≤ B.length) (hAm : A.length < 1000000) (hw : w ≤ X.length) (hwm : w < 1000000) (hf : FitX A (zg X) w) :
    denP E 36 [mraw na A, lraw nb B, lraw nx' X] = some (.ret (.bool (solB A (zg B) (zg X) A.length))) := by
  refine denP_eq E36 rfl (by simp [AV.pureL, AV.pure, pure_ivr, pure_lr]) ?_
  simp (maxSteps := 4000000) only [go_sem, seval, ↓reduceIte, reduceCtorEq, Try.f36, places, fillAll]
  refine W_loopS (fun k sl h nx => ∃ (i : Nat), (∃ g : Nat → AV, sl = [g 0, lraw nb B, lraw nx' X, g 3, g 4, g 5, g 6, .bool (solB A (zg B) (zg X) i), g 8, g 9, mraw na A, .int .i64 (A.length : Int), .int .i64 (i : Int), g 13, g 14, g 15, g 16, g 17, g 18, g 19, g 20, g 21, g 22, g 23, g 24, g 25, g 26, g 27, g 28, g 29, g 30]) ∧ i + k = A.length) A.length ⟨0, garb rfl, by omega⟩ ?_
  rintro k _ h nx ⟨i, ⟨g, rfl⟩, hk⟩
  by_cases hi : i = A.length
  · have z1 : ((i : Int) < (A.length : Int)) = False := eq_false (by omega)
    rw [hi]
    generalize solB A (zg B) (zg X) A.length = s at *
    have z1 : ((A.length : Int) < (A.length : Int)) = False := eq_false (by omega)
    simp (maxSteps := 4000000) only [go_sem, seval, ↓reduceIte, reduceCtorEq, z1]
  · have z1 : ((i : Int) < (A.length : Int)) = True := eq_true (by omega)
    have z0 : ((0 : Int) ≤ (i : Int)) = True := eq_true (by omega)
    have zb : ((i : Int) < (B.length : Int)) = True := eq_true (by omega)
    have hga := get_lr (A := A) (i := i) (by omega)
    have hgb := get_ivr (L := B) (i := i) (by omega)
    obtain ⟨hr1, hr2⟩ := hA i (by omega)
    obtain ⟨hf1, hf2⟩ := hf i (by omega)
    obtain ⟨b1, b2, b3, b4, b5⟩ := zv_spec (hB.get (show i < B.length by omega)).1 (hB.get (show i < B.length by omega)).2
    rw [← b4, ← b5] at hgb
    have hml : (A.map lr).length = A.length := List.length_map _
    have hmlb : (B.map ivr).length = B.length := List.length_map _
    have w1 : IntKind.i64.wrap ((i + 1 : Nat) : Int) = ((i + 1 : Nat) : Int) := wrap64 (by omega) (by omega)
    obtain ⟨f, d1, _⟩ := dot_spec (A.getD i default).1 (A.getD i default).2 nx' X hr1 hX (by omega) (by omega) (by rw [hr2]; exact hf1) (by rw [hr2]; exact hf2)
    have hrx : dz (zg (A.getD i default).2) (zg X) (A.getD i default).2.length = rx A (zg X) i := rfl
    rw [hrx] at d1
    have hfr : (dg (rx A (zg X) i)).length ≤ 4096 := by rw [← hrx, hr2]; exact hf2 w (Nat.le_refl _)
    have c1 := exCmp_ret f (B.getD i default).2.1 (rx A (zg X) i) (zg B i) hfr (by unfold zg; omega)
    have hst : solB A (zg B) (zg X) (i + 1) = (decide (rx A (zg X) i = zg B i) && solB A (zg B) (zg X) i) := rfl
    have hc0 : (cmpI (rx A (zg X) i) (zg B i) = 0) = (rx A (zg X) i = zg B i) := by
      unfold cmpI
      refine propext ?_
      (repeat' split) <;> omega
    have hfin : ∀ (h' : Heap) (n' : Nat) (sl : List AV) (s : Bool), s = (decide (rx A (zg X) i = zg B i) && solB A (zg B) (zg X) i) → (∃ g : Nat → AV, sl = [g 0, lraw nb B, lraw nx' X, g 3, g 4, g 5, g 6, .bool s, g 8, g 9, mraw na A, .int .i64 (A.length : Int), .int .i64 ((i + 1 : Nat) : Int), g 13, g 14, g 15, g 16, g 17, g 18, g 19, g 20, g 21, g 22, g 23, g 24, g 25, g 26, g 27, g 28, g 29, g 30]) →
        ∃ k', k' < k ∧ ∃ (i : Nat), (∃ g : Nat → AV, sl = [g 0, lraw nb B, lraw nx' X, g 3, g 4, g 5, g 6, .bool (solB A (zg B) (zg X) i), g 8, g 9, mraw na A, .int .i64 (A.length : Int), .int .i64 (i : Int), g 13, g 14, g 15, g 16, g 17, g 18, g 19, g 20, g 21, g 22, g 23, g 24, g 25, g 26, g 27, g 28, g 29, g 30]) ∧ i + k' = A.length := fun h' n' sl s hs hsl => ⟨k - 1, by omega, i + 1, by rw [hst, ← hs]; exact hsl, by omega⟩
    generalize hIQ : (fun (k : Nat) (σ : St) => ∃ (i : Nat), (∃ g : Nat → AV, σ.sl = [g 0, lraw nb B, lraw nx' X, g 3, g 4, g 5, g 6, .bool (solB A (zg B) (zg X) i), g 8, g 9, mraw na A, .int .i64 (A.length : Int), .int .i64 (i : Int), g 13, g 14, g 15, g 16, g 17, g 18, g 19, g 20, g 21, g 22, g 23, g 24, g 25, g 26, g 27, g 28, g 29, g 30]) ∧ i + k = A.length) = IQ
    clear hst hrx hfr hf1 hf2 hr1 hr2 b1 b2 b3 b4 b5
    have ezb : zv (B.getD i default) = zg B i := rfl
    rw [ezb] at hgb
    generalize rx A (zg X) i = r at *
    generalize zg B i = b at *
    generalize solB A (zg B) (zg X) i = s at *
    generalize A.getD i default = R at *
    generalize B.getD i default = q at *
    simp (maxSteps := 4000000) only [go_sem, seval, ↓reduceIte, reduceCtorEq, z0, z1, hga, hml, places, fillAll]
    refine W_drawn ?_
    by_cases he : r = b
    · have hz : (cmpI r b = 0) = True := by rw [hc0]; exact eq_true he
      rw [decide_eq_true he, Bool.true_and] at hfin
      clear hc0 he
      generalize cmpI r b = c at *
      simp (maxSteps := 4000000) only [go_sem, seval, ↓reduceIte, reduceCtorEq, d1, c1, hz, z0, zb, hgb, hmlb, purify_lraw]
      refine ⟨by rfl, ?_⟩
      rw [w1, ← hIQ]
      exact hfin h nx _ _ rfl (garb rfl)
    · have hz : (cmpI r b = 0) = False := by rw [hc0]; exact eq_false he
      rw [decide_eq_false he, Bool.false_and] at hfin
      clear hc0 he
      generalize cmpI r b = c at *
      simp (maxSteps := 4000000) only [go_sem, seval, ↓reduceIte, reduceCtorEq, d1, c1, hz, z0, zb, hgb, hmlb, purify_lraw]
      refine ⟨by rfl, ?_⟩
      rw [w1, ← hIQ]
      exact hfin h nx _ _ rfl (garb rfl)
end Go.Proofs.Ytnpomadbaanpkaa

/- Walks: Holds. (Own work of this repo.) -/
namespace Go.Proofs.Ytnpomadbaanpkaa
open Vm
set_option maxRecDepth 10000

theorem dz_bound (a b : Nat → Int) {P Q : Nat} : ∀ n, (∀ j, j < n → (a j).natAbs ≤ P ∧ (b j).natAbs ≤ Q) → (dz a b n).natAbs ≤ n * (P * Q)
  | 0, _ => by simp [dz]
  | n + 1, h => by
    have ih := dz_bound a b n fun j hj => h j (by omega)
    have h1 := h n (by omega)
    have h2 : (a n * b n).natAbs ≤ P * Q := by rw [Int.natAbs_mul]; exact Nat.mul_le_mul h1.1 h1.2
    have h3 : (dz a b n + a n * b n).natAbs ≤ (dz a b n).natAbs + (a n * b n).natAbs := Int.natAbs_add_le _ _
    show (dz a b n + a n * b n).natAbs ≤ _
    rw [Nat.succ_mul]
    omega
/-- What is less than 2 ^ b has few words. -/
theorem len_bits {z : Int} {b k : Nat} (h : z.natAbs ≤ 2 ^ b) (hb : b < 32 * k) : (dg z).length ≤ k := by
  refine dg_len.2 (Nat.lt_of_le_of_lt h ?_)
  have : BB = 2 ^ 32 := rfl
  rw [this, ← Nat.pow_mul]
  exact Nat.pow_lt_pow_right (by decide) hb
theorem fit_bits {A : Mat} {X : Nat → Int} {w p q : Nat} (hw : w ≤ 8) (hp : p + q + 3 < 131072) (hA : ∀ i, i < A.length → ∀ j, j < w → (rowz A i j).natAbs ≤ 2 ^ p) (hX : ∀ j, j < w → (X j).natAbs ≤ 2 ^ q) : FitX A X w := by
  intro i hi
  constructor
  · intro j hj
    refine len_bits (b := p + q) ?_ (by omega)
    rw [Int.natAbs_mul, Nat.pow_add]
    exact Nat.mul_le_mul (hA i hi j hj) (hX j hj)
  · intro j hj
    refine len_bits (b := p + q + 3) ?_ (by omega)
    refine Nat.le_trans (dz_bound (rowz A i) X (P := 2 ^ p) (Q := 2 ^ q) j fun t ht => ⟨hA i hi t (by omega), hX t (by omega)⟩) ?_
    rw [← Nat.pow_add, Nat.pow_add 2 (p + q) 3, Nat.mul_comm]
    exact Nat.mul_le_mul_left _ (by omega)
theorem bl200 {z : Int} (h : bl z.natAbs ≤ 200) : z.natAbs ≤ 2 ^ 200 := Nat.le_of_lt (bl_le.1 h)
theorem okB_zv {q : Raw} (hr : InR q.2.2) (h : okB q = true) : okV q = true ∧ (zv q).natAbs ≤ 2 ^ 200 := by
  unfold okB at h
  rw [Bool.and_eq_true, decide_eq_true_eq] at h
  obtain ⟨h1, h2⟩ := h
  obtain ⟨_, _, _, _, h5⟩ := zv_spec hr h1
  refine ⟨h1, bl200 ?_⟩
  rwa [← h5, val_dg] at h2
/-- What a system is. -/
structure SysOk (A : Mat) (B : List Raw) (w : Nat) : Prop where
  rows : 1 ≤ A.length ∧ A.length ≤ 8
  right : B.length = A.length
  cols : 1 ≤ w ∧ w ≤ 8
  mat : MatV A w
  vB : AllV B
  bA : ∀ i, i < A.length → ∀ j, j < w → (rowz A i j).natAbs ≤ 2 ^ 200
  bB : ∀ i, i < A.length → (zg B i).natAbs ≤ 2 ^ 200
theorem sys_ok {A : Mat} {B : List Raw} (iA : InM A) (iB : ∀ q ∈ B, InR q.2.2) (h : sysB A B = true) : SysOk A B (A.getD 0 default).2.length := by
  unfold sysB at h
  rw [Bool.and_eq_true, Bool.and_eq_true, decide_eq_true_eq, List.all_eq_true, List.all_eq_true] at h
  obtain ⟨⟨⟨h1, h2, h3⟩, h4⟩, h5⟩ := h
  have hrow : ∀ i, i < A.length → (1 ≤ (A.getD i default).2.length ∧ (A.getD i default).2.length ≤ 8 ∧ (A.getD i default).2.length = (A.getD 0 default).2.length) ∧ ∀ q ∈ (A.getD i default).2, okB q = true := by
    intro i hi
    have hm : A.getD i default ∈ A := by rw [List.getD_eq_getElem?_getD, List.getElem?_eq_getElem hi]; exact List.getElem_mem _
    have := h5 _ hm
    unfold rowB at this
    rw [Bool.and_eq_true, decide_eq_true_eq, List.all_eq_true] at this
    exact this
  have hget : ∀ (L : List Raw) (j : Nat), j < L.length → L.getD j default ∈ L := fun L j hj => by rw [List.getD_eq_getElem?_getD, List.getElem?_eq_getElem hj]; exact List.getElem_mem _
  refine ⟨⟨h1, h2⟩, h3, ⟨(hrow 0 (by omega)).1.1, (hrow 0 (by omega)).1.2.1⟩, fun i hi => ⟨fun q hq => ⟨iA.get i q hq, (okB_zv (iA.get i q hq) ((hrow i hi).2 q hq)).1⟩, (hrow i hi).1.2.2⟩, fun q hq => ⟨iB q hq, (okB_zv (iB q hq) (h4 q hq)).1⟩, fun i hi j hj => ?_, fun i hi => ?_⟩
  · have hm := hget (A.getD i default).2 j (by rw [(hrow i hi).1.2.2]; exact hj)
    exact (okB_zv (iA.get i _ hm) ((hrow i hi).2 _ hm)).2
  · have hm := hget B i (by omega)
    exact (okB_zv (iB _ hm) (h4 _ hm)).2
/-- A box. -/
abbrev bx (v : AV) : Blk := ⟨[v], false, 1, false⟩
theorem holds1_open (na : Bool) (A : Mat) (nb : Bool) (B : List Raw) (nx' : Bool) (X : List Raw) (s : Bool) (hd : denP E 36 [mraw na A, lraw nb B, lraw nx' X] = some (.ret (.bool s)))
    (pa pb px pi : Nat) (h : Heap) (nx : Nat) (la : pa < nx) (lb : pb < nx) (lx : px < nx) (li : pi < nx) (ha : h pa = some (bx (mraw na A))) (hb : h pb = some (bx (lraw nb B))) (hx : h px = some (bx (lraw nx' X))) (hi : h pi = some (bx (.bool false))) :
    ∃ h' n', denO E 35 [.ptr pa 0, .ptr pb 0, .ptr px 0, .ptr pi 0] h nx = some (.ret (.tup []), h', n') ∧ nx ≤ n' ∧ h' pi = some (bx (.bool s)) ∧ ∀ i, i ≠ pi → i < nx → h' i = h i := by
  have key : ∃ v h' n', denO E 35 [.ptr pa 0, .ptr pb 0, .ptr px 0, .ptr pi 0] h nx = some (.ret v, h', n') ∧ v = .tup [] ∧ nx ≤ n' ∧ h' pi = some (bx (.bool s)) ∧ ∀ i, i ≠ pi → i < nx → h' i = h i := by
    refine denO_intro E35 rfl ?_
    simp (maxSteps := 4000000) only [go_sem, seval, ↓reduceIte, reduceCtorEq, Try.f35, ha, hb, hx, hi, hd, purify_lraw, purify_mraw]
    intro i h1 h2
    rw [if_neg h1]
  obtain ⟨v, h', n', h1, rfl, h2⟩ := key
  exact ⟨h', n', h1, h2⟩
end Go.Proofs.Ytnpomadbaanpkaa

/- Walks: Holds, the whole. (Own work of this repo.) -/
namespace Go.Proofs.Ytnpomadbaanpkaa
open Vm
set_option maxRecDepth 10000

theorem openK_int {Q : Ex → St → Prop} {σ : St} {all os : List Go.Oper} {dst : Option Nat} {x : Option (Res × Heap × Nat)} {e : Int} (P : Heap → Nat → Prop) (hx : ∃ H' N', x = some (.ret (.int .i64 e), H', N') ∧ P H' N') (k : ∀ H' N', P H' N' → Rg E all os ⟨put σ.sl dst (.int .i64 e), H', N'⟩ Q) : openK E all os dst Q σ x := by
  obtain ⟨H', N', rfl, h1⟩ := hx
  exact k H' N' h1
/-- The error of a call that is tried. -/
theorem try_row (g : Nat) (b : List AV) (hg : E.opn g = true) (p : Nat) (s : AV) (h : Heap) (nx : Nat) (hp : p < nx)
    (hd : ∀ (h1 : Heap), (∀ i, i < nx → h1 i = h i) → ∃ h' n', denO E g b h1 (nx + 1) = some (.ret (.tup []), h', n') ∧ nx + 1 ≤ n' ∧ h' p = some (bx s) ∧ ∀ i, i ≠ p → i < nx + 1 → h' i = h1 i) :
    ∃ H' N', denO E 28 [.fn g [] b] h nx = some (.ret (.int .i64 0), H', N') ∧ (nx ≤ N' ∧ H' p = some (bx s) ∧ ∀ i, i ≠ p → i < nx → H' i = h i) := by
  obtain ⟨h', n', d1, d2, d3, d4⟩ := hd (h.upd nx (some ⟨[.int .i64 0], false, 1, false⟩)) fun i hi => upd_ne (by omega)
  have k6 : h' nx = some ⟨[.int .i64 0], false, 1, false⟩ := (d4 nx (by omega) (by omega)).trans (if_pos rfl)
  obtain ⟨H', N', q1, q2, q3⟩ := try_ret g [] b hg _ h h' nx n' d1 k6 (by omega)
  exact ⟨H', N', q1, by omega, (q3 p (by omega) (by omega)).trans d3, fun i h1 h2 => (q3 i (by omega) (by omega)).trans ((d4 i h1 (by omega)).trans (upd_ne (by omega)))⟩
theorem Holds_form (na : Bool) (A : Mat) (nb : Bool) (B : List Raw) (nx' : Bool) (X : List Raw) (hA : ShortM A) (hB : Short B) (iA : InM A) (iB : ∀ q ∈ B, InR q.2.2) (hX : Short X) (h : (sysB A B && X.all okV) = false) :
    denP E 9 [mraw na A, lraw nb B, lraw nx' X] = some (.ret (.tup [.bool false, .int .i64 1])) := by
  refine denP_eq E9 rfl (by simp [AV.pureL, AV.pure, pure_ivr, pure_lr]) ?_
  have s1 := sys_spec na A nb B hA hB iA iB
  have v1 := exValidL nx' X hX
  cases h1 : sysB A B with
  | false => rw [h1] at s1; simp (maxSteps := 4000000) only [go_sem, seval, ↓reduceIte, reduceCtorEq, Try.f9, s1, purify_lraw, purify_mraw, places, fillAll]
  | true =>
    rw [h1, Bool.true_and] at h
    rw [h1] at s1
    rw [h] at v1
    simp (maxSteps := 4000000) only [go_sem, seval, ↓reduceIte, reduceCtorEq, Try.f9, s1, v1, purify_lraw, purify_mraw, places, fillAll]
theorem Holds_arg (na : Bool) (A : Mat) (nb : Bool) (B : List Raw) (nx' : Bool) (X : List Raw) (hA : ShortM A) (hB : Short B) (iA : InM A) (iB : ∀ q ∈ B, InR q.2.2) (hX : Short X) (h : sysB A B = true) (h2 : X.all okV = true) (h3 : X.length ≠ (A.getD 0 default).2.length) :
    denP E 9 [mraw na A, lraw nb B, lraw nx' X] = some (.ret (.tup [.bool false, .int .i64 2])) := by
  refine denP_eq E9 rfl (by simp [AV.pureL, AV.pure, pure_ivr, pure_lr]) ?_
  have s1 := sys_spec na A nb B hA hB iA iB
  have v1 := exValidL nx' X hX
  have hok := sys_ok iA iB h
  rw [h] at s1
  rw [h2] at v1
  have hg0 := get_lr (A := A) (i := 0) (by have := hok.rows; omega)
  have z00 : ((0 : Int) < (A.length : Int)) = True := eq_true (by have := hok.rows; omega)
  have hml : (A.map lr).length = A.length := List.length_map _
  have hml0 : ((A.getD 0 default).2.map ivr).length = (A.getD 0 default).2.length := List.length_map _
  have z1 : ((X.length : Int) = ((A.getD 0 default).2.length : Int)) = False := eq_false (by omega)
  generalize A.getD 0 default = R0 at *
  simp (maxSteps := 4000000) only [go_sem, seval, ↓reduceIte, reduceCtorEq, Try.f9, s1, v1, purify_lraw, purify_mraw, places, fillAll]
  refine W_drawn ?_
  simp (maxSteps := 4000000) only [go_sem, seval, ↓reduceIte, reduceCtorEq, hg0, z00, hml, hml0, z1, Int.toNat_zero]
  rfl
theorem Holds_ok (na : Bool) (A : Mat) (nb : Bool) (B : List Raw) (nx' : Bool) (X : List Raw) (hA : ShortM A) (hB : Short B) (iA : InM A) (iB : ∀ q ∈ B, InR q.2.2) (hX : Short X) (iX : ∀ q ∈ X, InR q.2.2) (h : sysB A B = true) (h2 : X.all okV = true) (h3 : X.length = (A.getD 0 default).2.length) (hf : FitX A (zg X) X.length) :
    denP E 9 [mraw na A, lraw nb B, lraw nx' X] = some (.ret (.tup [.bool (solB A (zg B) (zg X) A.length), .int .i64 0])) := by
  refine denP_eq E9 rfl (by simp [AV.pureL, AV.pure, pure_ivr, pure_lr]) ?_
  have s1 := sys_spec na A nb B hA hB iA iB
  have v1 := exValidL nx' X hX
  have hok := sys_ok iA iB h
  rw [h] at s1
  rw [h2] at v1
  have hd := holds_spec na A nb B nx' X X.length (by rw [h3]; exact hok.mat) hok.vB (fun q hq => ⟨iX q hq, List.all_eq_true.1 h2 q hq⟩) (by have := hok.right; omega) (by have := hok.rows; omega) (Nat.le_refl _) (by rw [h3]; have := hok.cols; omega) hf
  have hg0 := get_lr (A := A) (i := 0) (by have := hok.rows; omega)
  have z00 : ((0 : Int) < (A.length : Int)) = True := eq_true (by have := hok.rows; omega)
  have hml : (A.map lr).length = A.length := List.length_map _
  have hml0 : ((A.getD 0 default).2.map ivr).length = (A.getD 0 default).2.length := List.length_map _
  have z1 : ((X.length : Int) = ((A.getD 0 default).2.length : Int)) = True := eq_true (by omega)
  generalize A.getD 0 default = R0 at *
  generalize solB A (zg B) (zg X) A.length = s at *
  clear hf h3 hok h2 h
  simp (maxSteps := 4000000) only [go_sem, seval, ↓reduceIte, reduceCtorEq, Try.f9, s1, v1, purify_lraw, purify_mraw, places, fillAll]
  refine W_drawn ?_
  simp (maxSteps := 4000000) only [go_sem, seval, ↓reduceIte, reduceCtorEq, hg0, z00, hml, hml0, z1, Int.toNat_zero]
  refine ⟨by rfl, ?_⟩
  refine openK_int (e := 0) (fun H' _ => H' 3 = some (bx (.bool s))) ?_ ?_
  · have hr : ∀ H0 : Heap, H0 0 = some (bx (mraw na A)) → H0 1 = some (bx (lraw nb B)) → H0 2 = some (bx (lraw nx' X)) → H0 3 = some (bx (.bool false)) → ∃ H' N', denO E 28 [.fn 35 [] [.ptr 0 0, .ptr 1 0, .ptr 2 0, .ptr 3 0]] H0 4 = some (.ret (.int .i64 0), H', N') ∧ H' 3 = some (bx (.bool s)) := fun H0 c0 c1 c2 c3 => by
      obtain ⟨H', N', q1, q2, q3, q4⟩ := try_row 35 [.ptr 0 0, .ptr 1 0, .ptr 2 0, .ptr 3 0] rfl 3 (.bool s) H0 4 (by decide) (fun h1 hh => holds1_open na A nb B nx' X s hd 0 1 2 3 h1 5 (by decide) (by decide) (by decide) (by decide) ((hh 0 (by decide)).trans c0) ((hh 1 (by decide)).trans c1) ((hh 2 (by decide)).trans c2) ((hh 3 (by decide)).trans c3))
      exact ⟨H', N', q1, q3⟩
    exact hr _ (by simp only [upd_apply, ↓reduceIte, Nat.reduceEqDiff, if_pos]) (by simp only [upd_apply, ↓reduceIte, Nat.reduceEqDiff, if_pos]) (by simp only [upd_apply, ↓reduceIte, Nat.reduceEqDiff, if_pos]) (by simp only [upd_apply, ↓reduceIte, Nat.reduceEqDiff, if_pos])
  intro H' N' k1
  clear hd s1 v1 hg0 hml hml0
  cases s with
  | true => simp (maxSteps := 4000000) only [go_sem, seval, ↓reduceIte, reduceCtorEq, k1, Int.reduceEq]
  | false => simp (maxSteps := 4000000) only [go_sem, seval, ↓reduceIte, reduceCtorEq, k1, Int.reduceEq]
end Go.Proofs.Ytnpomadbaanpkaa

/- The machine over pure values, carried out by Lean's kernel: what is asked of statements without an order is decided. (Own work of this repo.) -/
namespace Vm
open Go

mutual
/-- Are two values the same? (Sufficient.) -/
def AV.same : AV → AV → Bool
  | .int k n, .int k' m => decide (k = k') && decide (n = m)
  | .bool a, .bool b => a == b
  | .str a, .str b => decide (a = b)
  | .lst n xs, .lst m ys => (n == m) && AV.sameL xs ys
  | .ref a b c, .ref a' b' c' => decide (a = a') && decide (b = b') && decide (c = c')
  | .ptr a b, .ptr a' b' => decide (a = a') && decide (b = b')
  | .imm xs, .imm ys => AV.sameL xs ys
  | .nilp, .nilp => true
  | .fn f a b, .fn f' a' b' => decide (f = f') && AV.sameL a a' && AV.sameL b b'
  | .nilf, .nilf => true
  | .iface t v, .iface t' v' => decide (t = t') && v.same v'
  | .nili, .nili => true
  | .agg xs, .agg ys => AV.sameL xs ys
  | .tup xs, .tup ys => AV.sameL xs ys
  | _, _ => false
def AV.sameL : List AV → List AV → Bool
  | [], [] => true
  | x :: xs, y :: ys => x.same y && AV.sameL xs ys
  | _, _ => false
end
mutual
theorem same_eq : ∀ (x y : AV), x.same y = true → x = y
  | .int k n, y, h => by cases y <;> simp [AV.same] at h; rw [h.1, h.2]
  | .bool a, y, h => by cases y <;> simp [AV.same] at h; rw [h]
  | .str a, y, h => by cases y <;> simp [AV.same] at h; rw [h]
  | .lst n xs, y, h => by
    cases y <;> simp [AV.same] at h
    rw [h.1, sameL_eq xs _ h.2]
  | .ref a b c, y, h => by cases y <;> simp [AV.same] at h; rw [h.1.1, h.1.2, h.2]
  | .ptr a b, y, h => by cases y <;> simp [AV.same] at h; rw [h.1, h.2]
  | .imm xs, y, h => by cases y <;> simp [AV.same] at h; rw [sameL_eq xs _ h]
  | .nilp, y, h => by cases y <;> simp [AV.same] at h; rfl
  | .fn f a b, y, h => by
    cases y <;> simp [AV.same] at h
    rw [h.1.1, sameL_eq a _ h.1.2, sameL_eq b _ h.2]
  | .nilf, y, h => by cases y <;> simp [AV.same] at h; rfl
  | .iface t v, y, h => by
    cases y <;> simp [AV.same] at h
    rw [h.1, same_eq v _ h.2]
  | .nili, y, h => by cases y <;> simp [AV.same] at h; rfl
  | .agg xs, y, h => by cases y <;> simp [AV.same] at h; rw [sameL_eq xs _ h]
  | .tup xs, y, h => by cases y <;> simp [AV.same] at h; rw [sameL_eq xs _ h]
  | .code _ _ _, y, h => by cases y <;> simp [AV.same] at h
theorem sameL_eq : ∀ (xs ys : List AV), AV.sameL xs ys = true → xs = ys
  | [], ys, h => by cases ys <;> simp [AV.sameL] at h; rfl
  | x :: xs, ys, h => by
    cases ys <;> simp [AV.sameL] at h
    rw [same_eq x _ h.1, sameL_eq xs _ h.2]
end
def Dep.okB (E : Env) : Dep → Option Blk → Bool
  | .shape n, some b => decide (b.esz = n)
  | .cells t off v, some b => (match loadEff E (Heap.empty.upd 0 (some b)) t (.ptr 0 off) with
    | some ⟨.val w, [0], [], false⟩ => w.same v
    | _ => false)
  | _, _ => false
theorem Dep.okB_ok {E : Env} {d : Dep} {b : Option Blk} (h : d.okB E b = true) : d.ok E b := by
  cases d <;> cases b <;> simp only [Dep.okB, Bool.false_eq_true] at h
  · simpa [Dep.ok] using h
  · split at h
    · rename_i w hw
      show loadEff _ _ _ _ = _
      rw [hw, same_eq _ _ h]
    · cases h
def stableB (E : Env) (all : List Oper) (rs : List Rec) (H : Heap) (i : Nat) (r : Rec) : Bool :=
  r.ids.isEmpty && (match r.rds with
  | [x] => (vis all i x rs 0 [H x]).all fun b => r.dep.okB E b
  | _ => false)
theorem stableB_ok {E : Env} {all : List Oper} {rs : List Rec} {H : Heap} {i : Nat} {r : Rec} (h : stableB E all rs H i r = true) : Stable E all rs H i r := by
  unfold stableB at h
  rw [Bool.and_eq_true] at h
  obtain ⟨h1, h2⟩ := h
  split at h2 <;> try cases h2
  rename_i x hx
  exact ⟨by simpa using h1, x, hx, fun b hb => Dep.okB_ok (List.all_eq_true.1 h2 b hb)⟩
def pairB (E : Env) (all : List Oper) (rs : List Rec) (H : Heap) (j k : Nat) (r s : Rec) : Bool :=
  disj r.ids s.ids && (disj r.ids s.rds || stableB E all rs H k s) && (disj s.ids r.rds || stableB E all rs H j r)
theorem disj_ok {a b : List Nat} (h : disj a b = true) : ∀ i, i ∈ a → i ∉ b := by
  intro i hi hb
  have := List.all_eq_true.1 h i hi
  simp [hb] at this
theorem pairB_ok {E : Env} {all : List Oper} {rs : List Rec} {H : Heap} {j k : Nat} {r s : Rec} (h : pairB E all rs H j k r s = true) : PairOk E all rs H j k r s := by
  unfold pairB at h
  simp only [Bool.and_eq_true, Bool.or_eq_true] at h
  obtain ⟨⟨h1, h2⟩, h3⟩ := h
  exact ⟨disj_ok h1, h2.elim (fun h => .inr (disj_ok h)) fun h => .inl (stableB_ok h), h3.elim (fun h => .inr (disj_ok h)) fun h => .inl (stableB_ok h)⟩
def dyn1B (E : Env) (all : List Oper) (rs : List Rec) (H : Heap) (j : Nat) (r : Rec) : Nat → List Rec → Bool
  | _, [] => true
  | k, s :: ss => (match r.quiet && s.quiet with
    | true => true
    | false => befBit all k j || pairB E all rs H j k r s) && dyn1B E all rs H j r (k + 1) ss
def dynB (E : Env) (all : List Oper) (rs : List Rec) (H : Heap) : Nat → List Rec → Bool
  | _, [] => true
  | j, r :: ss => dyn1B E all rs H j r (j + 1) ss && dynB E all rs H (j + 1) ss
theorem quiet_nil {r : Rec} (h : r.quiet = true) : r.ids = [] := by
  unfold Rec.quiet at h; unfold Rec.ids
  rw [List.isEmpty_iff] at h; rw [h]; rfl
theorem dyn1B_ok {E : Env} {all : List Oper} {rs : List Rec} {H : Heap} {j : Nat} {r : Rec} : ∀ (ss : List Rec) (k : Nat), dyn1B E all rs H j r k ss = true → ∀ i s, ss[i]? = some s → befBit all (k + i) j = false → PairOk E all rs H j (k + i) r s
  | [], _, _, i, s, h, _ => by simp at h
  | t :: ss, k, h, i, s, hs, hb => by
    simp only [dyn1B, Bool.and_eq_true] at h
    cases i with
    | zero =>
      simp at hs; subst hs
      rw [Nat.add_zero] at hb ⊢
      cases hq : r.quiet && t.quiet with
      | true =>
        rw [Bool.and_eq_true] at hq
        refine ⟨fun i hi => ?_, .inr fun i hi => ?_, .inr fun i hi => ?_⟩
        · rw [quiet_nil hq.1] at hi; cases hi
        · rw [quiet_nil hq.1] at hi; cases hi
        · rw [quiet_nil hq.2] at hi; cases hi
      | false =>
        rw [hq, hb] at h
        exact pairB_ok (by simpa using h.1)
    | succ i =>
      have := dyn1B_ok ss (k + 1) h.2 i s (by simpa using hs) (by rw [show k + 1 + i = k + (i + 1) by omega]; exact hb)
      rwa [show k + 1 + i = k + (i + 1) by omega] at this
theorem dynB_ok {E : Env} {all : List Oper} {rs : List Rec} {H : Heap} : ∀ (l : List Rec) (m : Nat), dynB E all rs H m l = true → ∀ j k r s, l[j]? = some r → l[k]? = some s → j < k → befBit all (m + k) (m + j) = false → PairOk E all rs H (m + j) (m + k) r s
  | [], _, _, j, k, r, s, h, _, _, _ => by simp at h
  | t :: l, m, h, j, k, r, s, hr, hs, hlt, hb => by
    simp only [dynB, Bool.and_eq_true] at h
    cases k with
    | zero => omega
    | succ k =>
      cases j with
      | zero =>
        simp at hr; subst hr
        have := dyn1B_ok l (m + 1) h.1 k s (by simpa using hs) (by rw [show m + 1 + k = m + (k + 1) by omega]; exact hb)
        rwa [show m + 1 + k = m + (k + 1) by omega] at this
      | succ j =>
        have := dynB_ok l (m + 1) h.2 j k r s (by simpa using hr) (by simpa using hs) (by omega) (by rw [show m + 1 + k = m + (k + 1) by omega, show m + 1 + j = m + (j + 1) by omega]; exact hb)
        rwa [show m + 1 + k = m + (k + 1) by omega, show m + 1 + j = m + (j + 1) by omega] at this
noncomputable def runDrawB (E : Env) (C : Cl) (ops : List Oper) (σ : St) : Option (Ex × St) :=
  match recs E (callEff E C (σ.nx + ops.length)) ops ops 0 none σ with
  | some (rs, none, σ') => (match (match rs.all Rec.quiet with | true => true | false => dynB E ops rs σ.h 0 rs) with
    | true => some (.norm, σ')
    | false => none)
  | some (rs, some (_, v), σ') => (match (match rs.all Rec.quiet with | true => true | false => dynOk ops 0 rs && rs.all (fun r => r.ids.all fun i => σ.nx ≤ i)) with
    | true => some (.panic v, ⟨σ.sl, σ.h, σ'.nx⟩)
    | false => none)
  | none => none
theorem runDrawB_ok {E : Env} {C : Cl} {ops : List Oper} {σ : St} {r : Ex × St} (h : runDrawB E C ops σ = some r) : runDraw E C ops σ = some r := by
  unfold runDrawB at h
  unfold runDraw
  split at h
  · rename_i rs σ' hr
    rw [hr]
    dsimp only
    split at h
    · rename_i hq
      cases h
      cases ha : rs.all Rec.quiet with
      | true => rfl
      | false =>
        rw [ha] at hq
        have hd : DynP E ops rs σ.h := fun j k r s h1 h2 h3 h4 => by
          have := dynB_ok rs 0 hq j k r s h1 h2 h3 (by simpa using h4)
          simpa using this
        dsimp only
        split
        · rfl
        · rw [if_pos hd]
    · cases h
  · rename_i rs q v σ' hr
    rw [hr]
    exact h
  · cases h
noncomputable def stepB (E : Env) (C : Cl) (again : Code → St → Option (Ex × St)) : Code → St → Option (Ex × St)
  | .skip, σ => some (.norm, σ)
  | .region _ ops draw, σ => if draw then runDrawB E C ops.toList σ else runOps E C ops.toList ops.toList σ
  | .seq a b, σ => (match stepB E C again a σ with
    | some (.norm, σ') => stepB E C again b σ'
    | some (.exit i, σ') => some (.exit i, σ')
    | some (.ret, σ') => some (.ret, σ')
    | some (.panic v, σ') => some (.panic v, σ')
    | none => none)
  | .cond c a b, σ => (match ev σ.sl c with
    | some (.bool true) => stepB E C again a σ
    | some (.bool false) => stepB E C again b σ
    | _ => none)
  | .block i c, σ => (match stepB E C again c σ with
    | some (.norm, σ') => some (.norm, σ')
    | some (.exit j, σ') => if j = i then some (.norm, σ') else some (.exit j, σ')
    | some (.ret, σ') => some (.ret, σ')
    | some (.panic v, σ') => some (.panic v, σ')
    | none => none)
  | .loop c, σ => (match again c σ with
    | some (.norm, σ') => again (.loop c) σ'
    | some (.exit i, σ') => some (.exit i, σ')
    | some (.ret, σ') => some (.ret, σ')
    | some (.panic v, σ') => some (.panic v, σ')
    | none => none)
  | .exit i, σ => some (.exit i, σ)
  | .ret, σ => some (.ret, σ)
  | .rangeFunc fo ps asg bd, σ => step E C again (.rangeFunc fo ps asg bd) σ
  | _, _ => none
theorem stepB_ok {E : Env} {C : Cl} {again : Code → St → Option (Ex × St)} : ∀ (c : Code) (σ : St) (r : Ex × St), stepB E C again c σ = some r → step E C again c σ = some r := by
  intro c
  induction c with
  | region id ops draw =>
    intro σ r h
    simp only [stepB, step] at h ⊢
    split at h
    · rename_i hd; rw [if_pos hd]; exact runDrawB_ok h
    · rename_i hd; rw [if_neg hd]; exact h
  | seq a b iha ihb =>
    intro σ r h
    simp only [stepB] at h
    simp only [step]
    have key : ∃ q, stepB E C again a σ = some q := by split at h <;> first | exact ⟨_, by assumption⟩ | cases h
    obtain ⟨q, hq⟩ := key
    rw [iha _ _ hq]
    rw [hq] at h
    obtain ⟨ex, σ'⟩ := q
    cases ex with
    | norm => exact ihb _ _ h
    | exit i => exact h
    | ret => exact h
    | panic v => exact h
  | cond c a b iha ihb =>
    intro σ r h
    simp only [stepB] at h
    simp only [step]
    split at h
    · rename_i he; rw [he]; exact iha _ _ h
    · rename_i he; rw [he]; exact ihb _ _ h
    · cases h
  | block i c ih =>
    intro σ r h
    simp only [stepB] at h
    simp only [step]
    have key : ∃ q, stepB E C again c σ = some q := by split at h <;> first | exact ⟨_, by assumption⟩ | cases h
    obtain ⟨q, hq⟩ := key
    rw [ih _ _ hq]
    rw [hq] at h
    exact h
  | skip => intro σ r h; exact h
  | loop c ih => intro σ r h; exact h
  | exit i => intro σ r h; exact h
  | ret => intro σ r h; exact h
  | rangeFunc fo ps asg bd => intro σ r h; exact h
  | _ => intro σ r h; simp [stepB] at h
noncomputable def execB (E : Env) : Nat → Code → St → Option (Ex × St)
  | 0 => fun _ _ => none
  | n + 1 => stepB E (cl E (execB E n)) (execB E n)
theorem execB_ok {E : Env} : ∀ (n : Nat) (c : Code) (σ : St) (r : Ex × St), execB E n c σ = some r → exec E n c σ = some r
  | 0, c, σ, r, h => by simp [execB] at h
  | n + 1, c, σ, r, h => by
    have h1 := stepB_ok c σ r h
    have ha : AgLim (execB E n) (fun _ => exec E n) := fun c σ r h => ⟨0, fun _ _ => execB_ok n c σ r h⟩
    obtain ⟨k, hk⟩ := step_lim (cl_lim ha) ha c σ r h1
    exact hk k (Nat.le_refl _)
/-- What the kernel has carried out. -/
theorem denP_ker {E : Env} {f : FuncId} {l : List AV} {r : Res} (n : Nat) (h : bodyP E (execB E n) f l = some r) : denP E f l = some r := by
  have ha : AgLim (execB E n) (fun _ => exec E n) := fun c σ r h => ⟨0, fun _ _ => execB_ok n c σ r h⟩
  obtain ⟨k, hk⟩ := (cl_lim (E := E) ha).p f l r h
  exact denP_of (hk k (Nat.le_refl _))
end Vm
